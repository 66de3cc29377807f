/-
  Contracts of the errors' texts (package fault and its reference): a plain error wrapped in places and names, and its text.
  Conditions: at most 100 wraps, names of at most 8 bytes; the table of powers of ten is laid.
-/
import Derived.Test.YtkbfhnhdlcbidaaDoorFaultN
import Derived.Test.YtkbfhnhdlcbidaaDoorTickLaws
import Derived.Test.YtkbfhnhdlcbidaaDoorRow
import Derived.Stop.Asserts
import Derived.LaidEql
namespace Go.Proofs.YtkbfhnhdlcbidaaDoor
open Go.RowKit Go.Sort

/-- A wrap: a place, or a name. -/
structure Wr where
  at_ : Bool
  line : Int
  col : Int
  name : ByteArray
/-- A wrap's four cells. -/
def wrCells (W : Wr) : List Value := [.bool W.at_, .int .i64 W.line, .int .i64 W.col, .string W.name]
structure WrOk (W : Wr) : Prop where
  line : i64 W.line
  col : i64 W.col
  name : W.name.size ≤ 8
/-- What stands ahead of the text of what is wrapped. -/
def prefW (W : Wr) : List UInt8 := if W.at_ = true then [108, 105, 110, 101, 32] ++ Lib.itoa W.line ++ [44, 32, 99, 111, 108, 117, 109, 110, 32] ++ Lib.itoa W.col ++ [58, 32] else [105, 110, 32] ++ W.name.data.toList ++ [58, 32]
def plainW (en : Int) : List UInt8 := [101, 114, 114, 111, 114, 32] ++ Lib.itoa en
def textW : List Wr → Int → List UInt8
  | [], en => plainW en
  | W :: ws, en => prefW W ++ textW ws en
theorem prefW_len {W : Wr} (h : WrOk W) : (prefW W).length ≤ 60 := by
  obtain ⟨h1, h2, h3⟩ := h
  unfold i64 at h1 h2
  have l1 := Lib.itoa_length_le W.line h1.1 h1.2
  have l2 := Lib.itoa_length_le W.col h2.1 h2.2
  have l3 : W.name.data.toList.length ≤ 8 := h3
  unfold prefW
  split
  · simp only [List.length_append, List.length_cons, List.length_nil]; omega
  · simp only [List.length_append, List.length_cons, List.length_nil]; omega
theorem textW_len {en : Int} (he : i64 en) : ∀ ws : List Wr, (∀ W ∈ ws, WrOk W) → (textW ws en).length ≤ 60 * ws.length + 40
  | [], _ => by
    unfold i64 at he
    have := Lib.itoa_length_le en he.1 he.2
    simp only [textW, plainW, List.length_append, List.length_cons, List.length_nil]; omega
  | W :: ws, h => by
    have h1 := prefW_len (h W (by simp))
    have h2 := textW_len he ws (fun V hV => h V (by simp [hV]))
    simp only [textW, List.length_append, List.length_cons]; omega

/-- An error of some wraps, as it lies in a world. -/
def Chain (w : World) (en : Int) : List Wr → Value → Prop
  | [], v => v = .iface 23 (.int .i64 en)
  | W :: ws, v => ∃ p v', Chain w en ws v' ∧
      ((W.at_ = true ∧ v = .iface 43 (.pointer (some ⟨p, 0, none⟩)) ∧ Blk w p 45 #[.int .i64 W.line, .int .i64 W.col, v']) ∨
       (W.at_ = false ∧ v = .iface 46 (.pointer (some ⟨p, 0, none⟩)) ∧ Blk w p 48 #[.string W.name, v']))
theorem chain_later {w w' : World} {en : Int} (hb : Below w.heap.size w w') : ∀ {ws : List Wr} {v : Value}, Chain w en ws v → Chain w' en ws v
  | [], _, h => h
  | _ :: _, _, ⟨p, v', h, hc⟩ => ⟨p, v', chain_later hb h, hc.imp (fun ⟨a, b, c⟩ => ⟨a, b, c.later hb⟩) (fun ⟨a, b, c⟩ => ⟨a, b, c.later hb⟩)⟩

theorem fErrno (en : Int) (w : World) (he : i64 en) (hp : Pow w) : Calls Tryd.prog 55 #[.int .i64 en] w fun e w' => e = .returned (.string (bt (plainW en))) ∧ Below w.heap.size w w' := by
  have hz := he
  unfold i64 at hz
  have hl : (Lib.itoa en).length ≤ 21 := Lib.itoa_length_le en hz.1 hz.2
  have F := Lib.hid (fun w hp => Tryd.strconv_Itoa en hz.1 hz.2 w hp)
  have HP := Lib.hid hp
  clear hp he hz
  have e1 : (⟨#[101, 114, 114, 111, 114, 32]⟩ : ByteArray) ++ bt (Lib.itoa en) = bt (plainW en) := bt_append _ _
  go_enter Tryd.func55, Tryd.ntmps55
  go_wp2_with fail
  refine (F.out _ HP.out).mono ?_; rintro e w1 ⟨rfl, k, os, rfl⟩
  go_wp2_with fail
  go_ret
  exact ⟨rfl, below_growD _ _ _⟩
theorem ta11 (v : Value) (w : World) : (Instr.typeAssert (.iface 23 v) 28 43 true).run Tryd.prog w = .ok (.tuple #[.pointer none, .bool false]) w := by kernel_rfl
theorem ta12 (v : Value) (w : World) : (Instr.typeAssert (.iface 23 v) 28 46 true).run Tryd.prog w = .ok (.tuple #[.pointer none, .bool false]) w := by kernel_rfl
theorem ta13 (v : Value) (w : World) : (Instr.typeAssert (.iface 23 v) 28 23 true).run Tryd.prog w = .ok (.tuple #[v, .bool true]) w := by kernel_rfl
theorem ta21 (v : Value) (w : World) : (Instr.typeAssert (.iface 43 v) 28 43 true).run Tryd.prog w = .ok (.tuple #[v, .bool true]) w := by kernel_rfl
theorem ta31 (v : Value) (w : World) : (Instr.typeAssert (.iface 46 v) 28 43 true).run Tryd.prog w = .ok (.tuple #[.pointer none, .bool false]) w := by kernel_rfl
theorem ta32 (v : Value) (w : World) : (Instr.typeAssert (.iface 46 v) 28 46 true).run Tryd.prog w = .ok (.tuple #[v, .bool true]) w := by kernel_rfl
theorem text_at (l c : Int) (t : List UInt8) (n : ByteArray) : (⟨#[108, 105, 110, 101, 32]⟩ : ByteArray) ++ bt (Lib.itoa l) ++ ⟨#[44, 32, 99, 111, 108, 117, 109, 110, 32]⟩ ++ bt (Lib.itoa c) ++ ⟨#[58, 32]⟩ ++ bt t = bt (prefW ⟨true, l, c, n⟩ ++ t) := by
  apply ByteArray.ext
  simp [ByteArray.data_append, prefW]
theorem text_in (l c : Int) (t : List UInt8) (n : ByteArray) : (⟨#[105, 110, 32]⟩ : ByteArray) ++ n ++ ⟨#[58, 32]⟩ ++ bt t = bt (prefW ⟨false, l, c, n⟩ ++ t) := by
  apply ByteArray.ext
  simp [ByteArray.data_append, prefW]
set_option maxHeartbeats 1000000 in
set_option maxRecDepth 100000 in
theorem fText {en : Int} (he : i64 en) : ∀ (ws : List Wr) (v : Value) (w : World), Chain w en ws v → (∀ W ∈ ws, WrOk W) → ws.length ≤ 100 → Pow w →
    Calls Tryd.prog 44 #[v] w fun e w' => e = .returned (.string (bt (textW ws en))) ∧ Below w.heap.size w w'
  | [], v, w, hc, _, _, hp => by
    obtain rfl : v = .iface 23 (.int .i64 en) := hc
    have F := Lib.hid (fun w hp => fErrno en w he hp)
    have HP := Lib.hid hp
    clear hp
    have q1 := ta11
    have q2 := ta12
    have q3 := ta13
    go_enter Tryd.func44, Tryd.ntmps44
    go_wp2_with fail
    refine (F.out _ HP.out).mono ?_; rintro e w1 ⟨rfl, hb⟩
    go_wp2_with fail
    go_ret
    exact ⟨rfl, hb⟩
  | ⟨true, l, c, n⟩ :: ws, v, w, hc, hg, hlen, hp => by
    obtain ⟨p, v', hch, ⟨-, rfl, hk⟩ | ⟨h0, -⟩⟩ := hc
    · have hok := hg _ (List.mem_cons_self ..)
      have h1 : i64 l := hok.line
      have h2 : i64 c := hok.col
      unfold i64 at h1 h2
      have l1 : (Lib.itoa l).length ≤ 21 := Lib.itoa_length_le l h1.1 h1.2
      have l2 : (Lib.itoa c).length ≤ 21 := Lib.itoa_length_le c h2.1 h2.2
      have hg' : ∀ W ∈ ws, WrOk W := fun W h => hg W (by simp [h])
      have l3 : (textW ws en).length ≤ 60 * ws.length + 40 := textW_len he ws hg'
      have hlen' : ws.length ≤ 99 := by simpa using hlen
      have F1 := Lib.hid (fun w hp => Tryd.strconv_Itoa l h1.1 h1.2 w hp)
      have F2 := Lib.hid (fun w hp => Tryd.strconv_Itoa c h2.1 h2.2 w hp)
      have F3 := Lib.hid (fun w hc hp => fText he ws v' w hc hg' (by omega) hp)
      have e1 := text_at l c (textW ws en) n
      have dk := hk.at3
      have hu : ∀ u : Later w.heap.size w, Below w.heap.size w u.world := fun u => u.below
      have HP := Lib.hid (fun u : Later w.heap.size w => pow_later hp u.below)
      have HC := Lib.hid (fun u : Later w.heap.size w => chain_later u.below hch)
      clear hp hch h1 h2 hok hg hk
      have q1 := ta21
      go_enter Tryd.func44, Tryd.ntmps44
      go_wp2_with fail
      refine wp_region_later w.heap.size (by kernel_rfl) (by kernel_rfl) ?_
      repeat (go_big_quiet_step ((first | (go_at_call 54; exact later_below (Nat.le_refl _) ((F1.out _ (HP.out _)).mono fun _ _ ⟨a, _, _, b⟩ => ⟨a, b ▸ below_growD _ _ _⟩)) | (go_at_call 54; exact later_below (Nat.le_refl _) ((F2.out _ (HP.out _)).mono fun _ _ ⟨a, _, _, b⟩ => ⟨a, b ▸ below_growD _ _ _⟩)) | (go_at_call 44; exact later_below (Nat.le_refl _) (F3.out _ (HC.out _) (HP.out _))))))
      refine wpQuiet_nil ?_
      intro w1 hb1
      go_wp2_with fail
      go_ret
      exact ⟨rfl, hb1⟩
    · cases h0
  | ⟨false, l, c, n⟩ :: ws, v, w, hc, hg, hlen, hp => by
    obtain ⟨p, v', hch, ⟨h0, -⟩ | ⟨-, rfl, hk⟩⟩ := hc
    · cases h0
    · have hok := hg _ (List.mem_cons_self ..)
      have h1 : n.size ≤ 8 := hok.name
      have hg' : ∀ W ∈ ws, WrOk W := fun W h => hg W (by simp [h])
      have l3 : (textW ws en).length ≤ 60 * ws.length + 40 := textW_len he ws hg'
      have hlen' : ws.length ≤ 99 := by simpa using hlen
      have F3 := Lib.hid (fun w hc hp => fText he ws v' w hc hg' (by omega) hp)
      have e1 := text_in l c (textW ws en) n
      have dk := hk.at2
      have hu : ∀ u : Later w.heap.size w, Below w.heap.size w u.world := fun u => u.below
      have HP := Lib.hid (fun u : Later w.heap.size w => pow_later hp u.below)
      have HC := Lib.hid (fun u : Later w.heap.size w => chain_later u.below hch)
      clear hp hch hok hg hk
      have q1 := ta31
      have q2 := ta32
      go_enter Tryd.func44, Tryd.ntmps44
      go_wp2_with fail
      refine wp_region_later w.heap.size (by kernel_rfl) (by kernel_rfl) ?_
      repeat (go_big_quiet_step ((go_at_call 44; exact later_below (Nat.le_refl _) (F3.out _ (HC.out _) (HP.out _)))))
      refine wpQuiet_nil ?_
      intro w1 hb1
      go_wp2_with fail
      go_ret
      exact ⟨rfl, hb1⟩
end Go.Proofs.YtkbfhnhdlcbidaaDoor
