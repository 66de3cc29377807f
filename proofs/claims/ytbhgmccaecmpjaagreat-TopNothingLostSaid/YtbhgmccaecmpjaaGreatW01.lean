/-
  General steps that every law of this seat shares: a law that returns true and leaves all old memory as it was meets its statement.
  Conditions: none of its own; the program is any program whose laws' rows list no variable.
-/
import Derived.WalkKit
import Derived.ProofKit
import Derived.OpenShut
import Derived.HandedShaped
import Derived.Lib.SmallJoins
import Derived.Deep.Slices
import Derived.Deep.Fields
import Derived.ChangeSame
import Derived.ChangeCalls
import Derived.Test.YtbhgmccaecmpjaaGreatRows
import Derived.WalkSpells
import Derived.WalkLawsBesides
import Derived.Lib.Hide
import Derived.IntWalk
import Derived.Laws.BitsLemmas
namespace Go.Proofs.YtbhgmccaecmpjaaGreat
set_option linter.unusedVariables false
set_option linter.unusedSimpArgs false
open Go.ChangeShapes Go.WideShapes Go.ChangeAt Go.RowKit Go.Joins Go.Deep

section
variable {H : Type} {enc : TypeId × Value → H} {P : Program}

/-- Each argument reads behind the call as it did before, where below the old heap nothing has turned. -/
theorem trodAll_below (hl : laidOutB P = true) {W W' : World} (hb : Below W.heap.size W W') :
    ∀ {ts : List TypeId} {vs : List Value} {ds : List (DataW H)} {ps : List MemPlace}, (ts.all fun t => P.readableRec t && decide (t < P.types.size)) = true →
      DataW.TrodAll enc P W 0 (fun _ => true) true ts vs ds ps → (∀ x ∈ ps, x.block < W.heap.size) → DataW.TrodAll enc P W' 0 (fun b => decide (b < W.heap.size)) true ts vs ds ps
  | [], [], [], _, _, h, _ => h
  | [], [], _ :: _, _, _, h, _ => h.elim
  | [], _ :: _, [], _, _, h, _ => h.elim
  | [], _ :: _, _ :: _, _, _, h, _ => h.elim
  | _ :: _, [], [], _, _, h, _ => h.elim
  | _ :: _, [], _ :: _, _, _, h, _ => h.elim
  | _ :: _, _ :: _, [], _, _, h, _ => h.elim
  | t :: ts, v :: vs, d :: ds, ps, hr, h, hlt => by
    obtain ⟨p, q, h1, h2, rfl⟩ := h
    simp only [List.all_cons, Bool.and_eq_true, decide_eq_true_eq] at hr
    exact ⟨p, q, Below.trod hl hr.1.1 hr.1.2 h1 hb (fun x hx => hlt x (by simp [hx])),
      trodAll_below hl hb hr.2 h2 (fun x hx => hlt x (by simp [hx])), rfl⟩

/-- A law's post: true, and each argument as it was. -/
theorem law_post {f : Func} {s : ChangeSpec} {T : TypeId} (hl : laidOutB P = true) (hpar : (f.params.toList.all fun t => P.readableRec t && decide (t < P.types.size)) = true)
    (hrt : f.resultTypes = #[T]) (hT : P.underlying T = some .bool) (hv : s.vars = [])
    (hs : ∀ ds : List (DataW H), ds.length = f.params.toList.length → s.fn H ds = { results := [.lit (.bool true)], args := ds })
    {apart fresh handsOn : Bool} {W W' : World} {args : Array Value} {ds gs : List (DataW H)} {before : List MemPlace}
    (hW : DataW.Whole enc P f.params.toList s.vars apart W args.toList ds gs before) (hb : Below W.heap.size W W') :
    s.post enc P f apart fresh handsOn false W args (.bool true) W' := by
  have hW' := hW
  obtain ⟨p, q, hA, hV, rfl, hfz, hnd⟩ := hW
  rw [hv] at hV
  obtain ⟨rfl, rfl⟩ := trodVars_none hV
  have hlt : ∀ x ∈ p, x.block < W.heap.size := fun x hx => hW'.lt x (by simp [hx])
  have hlen : ds.length = f.params.toList.length := (trodAll_length hA).2
  have e := hs ds hlen
  refine ⟨ds, [], p ++ [], [], p, [], hW', ?_, ?_, ?_, World.keptBut_mono (fun x hx => ⟨hx, Or.inr (Or.inl (by simpa using hx))⟩) (hb.frame (· ∈ p ++ [])), fun h => by cases h⟩
  · rw [List.append_nil, e, hrt]
    exact trodAll_mk1 (shut_bool hT true)
  · rw [List.append_nil, e]
    exact trodAll_below hl hb hpar hA hlt
  · rw [List.append_nil, e, hv]
    exact rfl

/-- A law's step: what its walk gives is all that its row asks. -/
theorem law_lifted {C : Checked} {os : Os} {f : FuncId} {fn : Func} {s : ChangeSpec} {conds : List PathCond} {T : TypeId}
    (own : ownKnob C.prog.godebug = none) (started : os.Started) (noInit : C.prog.inits.idxOf? f = none) (hfn : C.prog.funcs[f]? = some fn)
    (witness : ∃ (w : World) (tape : Tape) (i : Input), w.os = os ∧ (w.forCall tape i).Shaped C.prog ∧ i.vars = [] ∧ Input.okWide C.prog (w.forCall tape i) .any w.heap.size f i ∧
      s.pre6 enc C.prog fn conds false (w.forCall tape i).memory i.args ∧ ({} : Assume).holds C.prog (lone (Frame.enter C.prog f i.args .normal) [] (w.forCall tape i)))
    (hl : laidOutB C.prog = true) (hpar : (fn.params.toList.all fun t => C.prog.readableRec t && decide (t < C.prog.types.size)) = true)
    (hrt : fn.resultTypes = #[T]) (hT : C.prog.underlying T = some .bool) (hv : s.vars = [])
    (hs : ∀ ds : List (DataW H), ds.length = fn.params.toList.length → s.fn H ds = { results := [.lit (.bool true)], args := ds })
    (core : ∀ (W : World) (base : Nat) (args : Array Value) (ds : List (DataW H)) (before : List MemPlace),
      (∀ (j : Nat) t v, fn.params[j]? = some t → args[j]? = some v → Value.okWide C.prog W .any base t v) →
      DataW.TrodAll enc C.prog W 0 (fun _ => true) true fn.params.toList args.toList ds before → (∀ x ∈ before, x.block < W.heap.size) →
      (DataW.weightsEach C.prog (fn.params.toList ++ s.plain.varTypes C.prog) (ds ++ [])).all (· ≤ reachBytes) = true → W.ShapedOpen C.prog →
      Calls C.prog f args W fun e W' => e = .returned (.bool true) ∧ Below W.heap.size W W') :
    ReturnsInHanded {} C os f .any (s.pre6 enc C.prog fn conds false) (s.post enc C.prog fn false true false false) := by
  refine returnsInHanded_of_change_shaped own started noInit hfn witness ?_
  intro W base args ds gs before hval hW _ hz hsh _
  have hW' := hW
  obtain ⟨p, q, hA, hV, rfl, _, _⟩ := hW
  rw [hv] at hV
  obtain ⟨rfl, rfl⟩ := trodVars_none hV
  refine (core W base args ds p hval hA (fun x hx => hW'.lt x (by simp [hx])) hz hsh).mono fun e W' ⟨he, hb⟩ => ⟨_, he, law_post hl hpar hrt hT hv hs hW' hb⟩

end

section
variable {H : Type} {enc : TypeId × Value → H} {P : Program} {w : World} {base : Nat} {spare : Nat → Bool} {held : Bool}

theorem open_agg6 {r : Reach} {b0 : Nat} {t : TypeId} {f0 f1 f2 f3 f4 f5 : Field} {v : Value} {d : DataW H} {p : List MemPlace} (hs : P.underlying t = some (.struct #[f0, f1, f2, f3, f4, f5])) (hone : oneCellFields P #[f0, f1, f2, f3, f4, f5] = true) (hC : P.cellsOf t = 6)
    (hv : Value.okWide P w r b0 t v) (h : DataW.Trod enc P w base spare held t v d p) :
    ∃ (v0 v1 v2 v3 v4 v5 : Value) (y0 y1 y2 y3 y4 y5 : DataW H × List MemPlace) (n : Nat), v = .agg #[v0, v1, v2, v3, v4, v5] ∧ d = .agg [y0.1, y1.1, y2.1, y3.1, y4.1, y5.1] ∧ p = y0.2 ++ (y1.2 ++ (y2.2 ++ (y3.2 ++ (y4.2 ++ (y5.2))))) ∧
      DataW.trod enc P w base spare held n f0.type [v0] = some y0 ∧ DataW.trod enc P w base spare held n f1.type [v1] = some y1 ∧ DataW.trod enc P w base spare held n f2.type [v2] = some y2 ∧ DataW.trod enc P w base spare held n f3.type [v3] = some y3 ∧ DataW.trod enc P w base spare held n f4.type [v4] = some y4 ∧ DataW.trod enc P w base spare held n f5.type [v5] = some y5 := by
  obtain ⟨cs, rfl, hsz⟩ := okWide_struct hs hv
  obtain ⟨l⟩ := cs
  match l, hsz.trans hC with
  | [c0, c1, c2, c3, c4, c5], _ =>
    obtain ⟨fuel, hf⟩ := h
    obtain ⟨xs, n, _, hx, _, hlen, hg⟩ := DataW.trod_struct hs hf
    obtain ⟨o0, k0⟩ := hone_of hone 0 f0 rfl
    obtain ⟨o1, k1⟩ := hone_of hone 1 f1 rfl
    obtain ⟨o2, k2⟩ := hone_of hone 2 f2 rfl
    obtain ⟨o3, k3⟩ := hone_of hone 3 f3 rfl
    obtain ⟨o4, k4⟩ := hone_of hone 4 f4 rfl
    obtain ⟨o5, k5⟩ := hone_of hone 5 f5 rfl
    match xs, hlen with
    | [y0, y1, y2, y3, y4, y5], _ =>
      simp only [Prod.mk.injEq] at hx
      exact ⟨c0, c1, c2, c3, c4, c5, y0, y1, y2, y3, y4, y5, n, rfl, by simpa using hx.1, by simpa using hx.2, by simpa [Value.cells, o0, k0] using hg 0 f0 rfl, by simpa [Value.cells, o1, k1] using hg 1 f1 rfl, by simpa [Value.cells, o2, k2] using hg 2 f2 rfl, by simpa [Value.cells, o3, k3] using hg 3 f3 rfl, by simpa [Value.cells, o4, k4] using hg 4 f4 rfl, by simpa [Value.cells, o5, k5] using hg 5 f5 rfl⟩

theorem field_int {t : TypeId} {k : IntKind} {v : Value} {y : DataW H × List MemPlace} {n : Nat} (ht : P.underlying t = some (.int k)) (h : DataW.trod enc P w base spare held n t [v] = some y) : ∃ a : Int, v = .int k a ∧ (Lit.int k a).wf = true := by
  obtain ⟨a, e, _, hw⟩ := DataW.trod_int ht h
  exact ⟨a, by simpa using e, hw⟩
end

theorem bd_u8 {n : Int} (h : (Lit.int .u8 n).wf = true) : 0 ≤ n ∧ n ≤ 255 := by
  simpa [Lit.wf, IntKind.min, IntKind.max, IntKind.signed, IntKind.bits] using h

end Go.Proofs.YtbhgmccaecmpjaaGreat

namespace Go.Proofs.YtbhgmccaecmpjaaGreat
set_option linter.unusedVariables false
set_option linter.unusedSimpArgs false
open Go.RowKit

theorem ret_int {k : IntKind} {a b : Int} (h : a = b) : Ending.returned (.int k a) = .returned (.int k b) := by rw [h]
theorem ret_bool {a b : Bool} (h : a = b) : Ending.returned (.bool a) = .returned (.bool b) := by rw [h]
def nev : Int := 9223372036854775807
def ownT (t : Int) : Int := if t < 0 then 0 else t
def addT (a b : Int) : Int := if ownT a + ownT b ≥ nev then nev else ownT a + ownT b
def dueB (a n : Int) : Bool := decide (a ≠ nev ∧ ownT a ≤ ownT n)
/-- A number of Go's int64 or int. -/
def i64 (t : Int) : Prop := -9223372036854775808 ≤ t ∧ t ≤ 9223372036854775807

theorem ownT_le {t : Int} (h : i64 t) : 0 ≤ ownT t ∧ ownT t ≤ 9223372036854775807 := by
  unfold ownT; unfold i64 at h; omega

theorem town (t : Int) (w : World) : Calls Tryz.prog 44 #[.int .i64 t] w fun e w' => e = .returned (.int .i64 (ownT t)) ∧ w = w' := by
  by_cases h : t < 0
  · have e : ownT t = 0 := by unfold ownT; omega
    rw [e]
    go_enter Tryz.func44, Tryz.ntmps44
    go_wp2
    go_ret
    exact ⟨rfl, rfl⟩
  · have e : ownT t = t := by unfold ownT; omega
    rw [e]
    go_enter Tryz.func44, Tryz.ntmps44
    go_wp2
    go_ret
    exact ⟨rfl, rfl⟩
theorem tOwn (t : Int) (w : World) : Calls Tryz.prog 74 #[.int .i64 t] w fun e w' => e = .returned (.int .i64 (ownT t)) ∧ w = w' := by
  go_enter Tryz.func74, Tryz.ntmps74
  go_wp2_with (go_at_call 44; refine (town _ _).mono ?_; rintro e w' ⟨rfl, rfl⟩)
  go_ret
  exact ⟨rfl, rfl⟩
theorem tAdd (a b : Int) (w : World) (ha : i64 a) (hb : i64 b) : Calls Tryz.prog 25 #[.int .i64 a, .int .i64 b] w fun e w' => e = .returned (.int .i64 (addT a b)) ∧ w = w' := by
  have h1 := ownT_le ha
  have h2 := ownT_le hb
  clear ha hb
  by_cases h : ownT a + ownT b ≥ nev
  · have e : addT a b = 9223372036854775807 := by unfold addT; rw [if_pos h]; rfl
    rw [e]
    clear e
    have h3 : 9223372036854775807 - ownT b ≤ ownT a := by unfold nev at h; omega
    clear h
    go_enter Tryz.func25, Tryz.ntmps25
    go_wp2_with (go_at_call 44; refine (town _ _).mono ?_; rintro e w' ⟨rfl, rfl⟩)
    go_ret
    exact ⟨rfl, rfl⟩
  · have e : addT a b = ownT a + ownT b := by unfold addT; rw [if_neg h]
    rw [e]
    clear e
    have h3 : ownT a < 9223372036854775807 - ownT b := by unfold nev at h; omega
    clear h
    go_enter Tryz.func25, Tryz.ntmps25
    go_wp2_with (go_at_call 44; refine (town _ _).mono ?_; rintro e w' ⟨rfl, rfl⟩)
    go_ret
    exact ⟨rfl, rfl⟩
theorem dueB_never (n : Int) : dueB 9223372036854775807 n = false := by
  unfold dueB nev; simp
theorem dueB_else {a n : Int} (h : a ≠ 9223372036854775807) : dueB a n = decide (ownT a ≤ ownT n) := by
  unfold dueB nev; simp [h]
theorem tDue (a n : Int) (w : World) : Calls Tryz.prog 57 #[.int .i64 a, .int .i64 n] w fun e w' => e = .returned (.bool (dueB a n)) ∧ w = w' := by
  by_cases h : a = 9223372036854775807
  · subst h
    rw [dueB_never]
    go_enter Tryz.func57, Tryz.ntmps57
    go_wp2_with (go_at_call 44; refine (town _ _).mono ?_; rintro e w' ⟨rfl, rfl⟩)
    go_ret
    exact ⟨rfl, rfl⟩
  · rw [dueB_else h]
    have hb : (a != 9223372036854775807) = true := by simpa using h
    clear h
    go_enter Tryz.func57, Tryz.ntmps57
    go_wp2_with (go_at_call 44; refine (town _ _).mono ?_; rintro e w' ⟨rfl, rfl⟩)
    go_ret
    exact ⟨rfl, rfl⟩

theorem tDueV {a n : Int} {v : Bool} (h : dueB a n = v) (w : World) : Calls Tryz.prog 57 #[.int .i64 a, .int .i64 n] w fun e w' => e = .returned (.bool v) ∧ w = w' := by
  rw [← h]; exact tDue a n w
/-- The least of some ticks, one after the other. -/
def leastT (l : List Int) : Int := l.foldl (fun acc t => if ownT t < acc then ownT t else acc) nev
theorem leastT_nil : leastT [] = 9223372036854775807 := rfl
theorem leastT_snoc (l : List Int) (t : Int) : leastT (l ++ [t]) = if ownT t < leastT l then ownT t else leastT l := by
  unfold leastT; rw [List.foldl_append]; rfl
theorem leastT_take {l : List Int} {k : Nat} (h : k < l.length) : leastT (l.take (k + 1)) = if ownT l[k] < leastT (l.take k) then ownT l[k] else leastT (l.take k) := by
  rw [List.take_succ_eq_append_getElem h, leastT_snoc]
/-- A slice of int64 that holds a list. -/
def I64s (w : World) (b off : Nat) (l : List Int) : Prop := ∀ k (h : k < l.length), w.cell? ⟨b, off + k, none⟩ = some (.int .i64 l[k])

set_option maxHeartbeats 400000 in
theorem tLeast (b off c : Nat) (l : List Int) (w : World) (hl : l.length ≤ 9223372036854775807) (hw : I64s w b off l) :
    Calls Tryz.prog 139 #[.slice (some ⟨b, off, none⟩) l.length c] w fun e w' => e = .returned (.int .i64 (leastT l)) ∧ w = w' := by
  have HW := Lib.hid hw
  clear hw
  go_enter Tryz.func139, Tryz.ntmps139
  go_wp2_with (go_at_call 44; refine (town _ _).mono ?_; rintro e w' ⟨rfl, rfl⟩)
  go_loop [3, 8] (fun o i => ∃ k : Nat, k ≤ l.length ∧ i = .int .i64 k ∧ o = .int .i64 (leastT (l.take k))) (fun _ i => l.length - (intOf i).toNat)
  case atStart => exact ⟨0, Nat.zero_le _, rfl, by rw [List.take_zero, leastT_nil]⟩
  case round =>
    obtain ⟨k, hk, rfl, rfl⟩ := hrel
    by_cases hlt : k < l.length
    · have hc := HW.out k hlt
      have HS := Lib.hid (leastT_take hlt)
      go_wp2_with (go_at_call 44; refine (town _ _).mono ?_; rintro e w' ⟨rfl, rfl⟩)
      go_round
      case rel => exact ⟨k + 1, by omega, by go_num, by rw [HS.out]⟩
      case measure => simp [intOf]; omega
    · go_wp2
      go_ret
      exact ⟨ret_int (by rw [List.take_of_length_le (by omega)]), rfl⟩
end Go.Proofs.YtbhgmccaecmpjaaGreat

namespace Go.Proofs.YtbhgmccaecmpjaaGreat
set_option linter.unusedVariables false
set_option linter.unusedSimpArgs false
open Go.RowKit

/-- A table: how many items, which are runs, which have a byte. -/
structure TabT where
  n : Nat
  runs : Nat
  has : Nat → Nat
structure TabT.ok (t : TabT) : Prop where
  n : 1 ≤ t.n ∧ t.n ≤ 60
  runs : t.runs < 2 ^ t.n
  has : ∀ b, t.has b < 2 ^ t.n
def stpT (ru x : Nat) : Nat := x ||| ((x &&& ru) <<< 1)
theorem stpT_le (ru x : Nat) : x ≤ stpT ru x := Nat.left_le_or
/-- .. until nothing is added. -/
def cloG (ru : Nat) : Nat → Nat → Nat
  | 0, x => x
  | f + 1, x => if stpT ru x = x then x else cloG ru f (stpT ru x)
theorem cloG_more (ru M : Nat) (hM : ∀ x, x < M → stpT ru x < M) : ∀ (d f x : Nat), M - x = d → x < M → d ≤ f → cloG ru f x = cloG ru d x := by
  intro d
  induction d using Nat.strongRecOn with
  | _ d ih =>
    intro f x hd hx hf
    obtain ⟨f, rfl⟩ : ∃ g, f = g + 1 := ⟨f - 1, by omega⟩
    obtain ⟨d, rfl⟩ : ∃ g, d = g + 1 := ⟨d - 1, by omega⟩
    unfold cloG
    by_cases hc : stpT ru x = x
    · rw [if_pos hc, if_pos hc]
    · rw [if_neg hc, if_neg hc]
      have h1 := stpT_le ru x
      have h2 := hM x hx
      rw [ih (M - stpT ru x) (by omega) f _ rfl h2 (by omega), ih (M - stpT ru x) (by omega) d _ rfl h2 (by omega)]
theorem or_lt {a b m : Nat} (ha : a < 2 ^ m) (hb : b < 2 ^ m) : a ||| b < 2 ^ m := Nat.or_lt_two_pow ha hb
theorem and_lt {a b m : Nat} (hb : b < 2 ^ m) : a &&& b < 2 ^ m := Nat.and_lt_two_pow a hb
theorem shl_lt {a m : Nat} (h : a < 2 ^ m) : a <<< 1 < 2 ^ (m + 1) := by
  rw [Nat.shiftLeft_eq, Nat.pow_succ]; omega
theorem stpT_lt {ru x n : Nat} (hr : ru < 2 ^ n) (hx : x < 2 ^ (n + 1)) : stpT ru x < 2 ^ (n + 1) := or_lt hx (shl_lt (and_lt hr))
/-- The state with all that counts with it. -/
def cloT (n ru x : Nat) : Nat := cloG ru (2 ^ (n + 1) - x % 2 ^ (n + 1)) (x % 2 ^ (n + 1))
theorem cloG_lt {ru n : Nat} (hr : ru < 2 ^ n) : ∀ (f x : Nat), x < 2 ^ (n + 1) → cloG ru f x < 2 ^ (n + 1)
  | 0, x, h => h
  | f + 1, x, h => by
    unfold cloG
    split
    · exact h
    · exact cloG_lt hr f _ (stpT_lt hr h)
theorem cloT_lt {n ru : Nat} (hr : ru < 2 ^ n) (x : Nat) : cloT n ru x < 2 ^ (n + 1) := cloG_lt hr _ _ (Nat.mod_lt _ (Nat.two_pow_pos _))
/-- One round of the closing. -/
theorem clo_round {n ru x : Nat} (hr : ru < 2 ^ n) (hx : x < 2 ^ (n + 1)) (hc : stpT ru x ≠ x) : cloG ru (2 ^ (n + 1) - x) x = cloG ru (2 ^ (n + 1) - stpT ru x) (stpT ru x) := by
  have h1 := stpT_le ru x
  have h2 := stpT_lt hr hx
  obtain ⟨d, hd⟩ : ∃ d, 2 ^ (n + 1) - x = d + 1 := ⟨2 ^ (n + 1) - x - 1, by omega⟩
  rw [hd]
  show (if stpT ru x = x then x else cloG ru d (stpT ru x)) = _
  rw [if_neg hc]
  exact cloG_more ru (2 ^ (n + 1)) (fun y hy => stpT_lt hr hy) _ d _ rfl h2 (by omega)
theorem clo_end {n ru x : Nat} (hx : x < 2 ^ (n + 1)) (hc : stpT ru x = x) : cloG ru (2 ^ (n + 1) - x) x = x := by
  obtain ⟨d, hd⟩ : ∃ d, 2 ^ (n + 1) - x = d + 1 := ⟨2 ^ (n + 1) - x - 1, by omega⟩
  rw [hd]
  show (if stpT ru x = x then x else _) = x
  rw [if_pos hc]
def startT (t : TabT) : Nat := cloT t.n t.runs 1
def stepT (t : TabT) (x b : Nat) : Nat := cloT t.n t.runs (cloT t.n t.runs x &&& t.runs ||| ((cloT t.n t.runs x &&& t.has b) <<< 1))
def seekT (t : TabT) (x b : Nat) : Nat := stepT t x b ||| startT t
def doneT (t : TabT) (x : Nat) : Bool := (cloT t.n t.runs x >>> t.n) &&& 1 == 1
theorem seekT_lt {t : TabT} (h : t.ok) (x b : Nat) : seekT t x b < 2 ^ 61 := by
  have h1 : 2 ^ (t.n + 1) ≤ 2 ^ 61 := Nat.pow_le_pow_right (by decide) (by have := h.n.2; omega)
  have := or_lt (cloT_lt h.runs (cloT t.n t.runs x &&& t.runs ||| ((cloT t.n t.runs x &&& t.has b) <<< 1))) (cloT_lt h.runs 1)
  unfold seekT stepT startT
  omega
theorem startT_lt {t : TabT} (h : t.ok) : startT t < 2 ^ 61 := by
  have h1 : 2 ^ (t.n + 1) ≤ 2 ^ 61 := Nat.pow_le_pow_right (by decide) (by have := h.n.2; omega)
  have := cloT_lt h.runs 1
  unfold startT
  omega

/-! The model's own words on bits. -/
theorem wrap64 (a : Nat) (h : a < 2 ^ 64) : IntKind.u64.wrap (a : Int) = (a : Int) := by rw [IntKind.wrap_u64]; omega
theorem wrap64' (n : Int) (h₀ : 0 ≤ n) (h₁ : n < 2 ^ 64) : IntKind.u64.wrap n = n := by rw [IntKind.wrap_u64]; omega
theorem band (a b : Nat) (ha : a < 2 ^ 64) (hb : b < 2 ^ 64) : bits .and .u64 (a : Int) (b : Int) = ((a &&& b : Nat) : Int) := (bits_nat .u64 64 (by decide) wrap64' a b ha hb).1
theorem bor (a b : Nat) (ha : a < 2 ^ 64) (hb : b < 2 ^ 64) : bits .or .u64 (a : Int) (b : Int) = ((a ||| b : Nat) : Int) := (bits_nat .u64 64 (by decide) wrap64' a b ha hb).2
/-- the mask -/
theorem mask64 (n x : Nat) (hn : n ≤ 60) (hx : x < 2 ^ 64) : bits .and .u64 (x : Int) (IntKind.u64.wrap (IntKind.u64.wrap (2 * 2 ^ n) - 1)) = ((x % 2 ^ (n + 1) : Nat) : Int) := by
  have h1 : 2 ^ (n + 1) ≤ 2 ^ 61 := Nat.pow_le_pow_right (by decide) (by omega)
  have h2 : (2 * 2 ^ n : Int) = ((2 ^ (n + 1) : Nat) : Int) := by rw [Nat.pow_succ]; push_cast; omega
  have h3 : 0 < 2 ^ (n + 1) := Nat.two_pow_pos _
  rw [h2, wrap64 _ (by omega)]
  have h4 : ((2 ^ (n + 1) : Nat) : Int) - 1 = ((2 ^ (n + 1) - 1 : Nat) : Int) := by omega
  rw [h4, wrap64 _ (by omega), band x _ hx (by omega), Nat.and_two_pow_sub_one_eq_mod]
end Go.Proofs.YtbhgmccaecmpjaaGreat
