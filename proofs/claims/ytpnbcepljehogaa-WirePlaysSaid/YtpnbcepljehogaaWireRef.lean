/-
  Contracts of the reference of package wire: a text.
  Conditions: the numbers are of their Go kinds.
-/
import Derived.Test.YtpnbcepljehogaaWire3
import Derived.Test.YtpnbcepljehogaaPendRef
namespace Go.Proofs.Ytpnbcepljehogaa
open Go.RowKit

/-- The text of some bytes. -/
abbrev bs (S : List UInt8) : ByteArray := ⟨S.toArray⟩
theorem bs_size (S : List UInt8) : (bs S).size = S.length := rfl
theorem bs_take (S : List UInt8) (k : Nat) : (bs S).extract 0 k = bs (S.take k) := by
  apply ByteArray.ext
  simp [bs]
theorem bs_drop (S : List UInt8) (k : Nat) : (bs S).extract k (bs S).size = bs (S.drop k) := by
  apply ByteArray.ext
  rw [bs_size]
  rw [ByteArray.data_extract]
  show S.toArray.extract k S.length = (S.drop k).toArray
  rw [List.extract_toArray, List.extract_eq_take_drop]
  rw [List.take_of_length_le (by simp)]
theorem bs_append (S : List UInt8) (u : ByteArray) : bs S ++ u = bs (S ++ u.data.toList) := by
  apply ByteArray.ext
  simp [bs]
theorem bs_append' (S T : List UInt8) : bs S ++ bs T = bs (S ++ T) := by
  apply ByteArray.ext
  simp [bs]

abbrev WV (S : List UInt8) (sent rd : Int) (eof : Bool) : Value := .agg #[.string (bs S), .int .i64 sent, .int .i64 rd, .bool eof]

set_option maxHeartbeats 1000000 in
theorem rwOffer0 (S : List UInt8) (sent rd : Int) (eof ef : Bool) (u : ByteArray) (w : World) (hno : eof = true ∨ 4096 < u.size) : Calls Try.prog 72 #[WV S sent rd eof, .string u, .bool ef] w
    fun e w' => e = .returned (.tuple #[WV S sent rd eof, .bool false]) ∧ Below w.heap.size w w' := by
  cases eof with
  | true =>
    go_enter Try.func72, Try.ntmps72
    go_wp2_with fail
    exact bodyPost_ret (v := .tuple #[WV S sent rd true, .bool false]) (by simp [results, Try.results72, go_sem]) rfl ⟨rfl, by (repeat' (first | exact Below.refl _ _ | assumption | apply Below.drew | apply below_drewN | refine Below.setCell ?_ (by first | assumption | (simp; done) | (simp <;> omega)) _ | refine Below.alloc ?_ (by first | exact Nat.le_refl _ | assumption | (simp; done) | (simp <;> omega)) _))⟩
  | false =>
    have h1 : 4096 < u.size := by simpa using hno
    have h2 : (4096 : Int) < (u.size : Int) := by omega
    clear h1 hno
    go_enter Try.func72, Try.ntmps72
    go_wp2_with fail
    exact bodyPost_ret (v := .tuple #[WV S sent rd false, .bool false]) (by simp [results, Try.results72, go_sem]) rfl ⟨rfl, by (repeat' (first | exact Below.refl _ _ | assumption | apply Below.drew | apply below_drewN | refine Below.setCell ?_ (by first | assumption | (simp; done) | (simp <;> omega)) _ | refine Below.alloc ?_ (by first | exact Nat.le_refl _ | assumption | (simp; done) | (simp <;> omega)) _))⟩

set_option maxHeartbeats 1000000 in
theorem rwOffer1 (S : List UInt8) (sent rd : Int) (ef : Bool) (u : ByteArray) (w : World) (hu : u.size ≤ 4096) (hS : S.length ≤ 500000) (hse : 0 ≤ sent ∧ sent ≤ 500000) : Calls Try.prog 72 #[WV S sent rd false, .string u, .bool ef] w
    fun e w' => e = .returned (.tuple #[WV (S ++ u.data.toList) (sent + u.size) rd ef, .bool true]) ∧ Below w.heap.size w w' := by
  have h1 : ¬ (4096 : Int) < (u.size : Int) := by omega
  have s1 : IntKind.i64.wrap (sent + (u.size : Int)) = sent + (u.size : Int) := IntWalk.i64_in _ (by omega)
  show Calls Try.prog 72 #[.agg #[.string (bs S), .int .i64 sent, .int .i64 rd, .bool false], .string u, .bool ef] w
    fun e w' => e = .returned (.tuple #[.agg #[.string (bs (S ++ u.data.toList)), .int .i64 (sent + u.size), .int .i64 rd, .bool ef], .bool true]) ∧ Below w.heap.size w w'
  rw [← bs_append]
  have hz1 : ¬ 9223372036854775807 < (bs S).size + u.size := by rw [bs_size]; omega
  generalize bs S = s at *
  go_enter Try.func72, Try.ntmps72
  go_wp2_with fail
  exact bodyPost_ret (v := .tuple #[.agg #[.string (s ++ u), .int .i64 (sent + u.size), .int .i64 rd, .bool ef], .bool true]) (by simp [results, Try.results72, go_sem]) rfl ⟨rfl, by (repeat' (first | exact Below.refl _ _ | assumption | apply Below.drew | apply below_drewN | refine Below.setCell ?_ (by first | assumption | (simp; done) | (simp <;> omega)) _ | refine Below.alloc ?_ (by first | exact Nat.le_refl _ | assumption | (simp; done) | (simp <;> omega)) _))⟩

set_option maxHeartbeats 1000000 in
theorem rwTake (S : List UInt8) (sent rd n : Int) (eof : Bool) (w : World) (hS : S.length ≤ 500000) (hrd : 0 ≤ rd ∧ rd ≤ 500000) : Calls Try.prog 73 #[WV S sent rd eof, .int .i64 n] w
    fun e w' => e = .returned (.tuple #[WV (S.drop (wK n S)) sent (rd + wK n S) eof, .string (bs (S.take (wK n S)))]) ∧ Below w.heap.size w w' := by
  have hk : wK n S ≤ S.length := by unfold wK; omega
  have e1 : min (max n 0) (S.length : Int) = (wK n S : Int) := by unfold wK; omega
  generalize wK n S = k at *
  have s1 : IntKind.i64.wrap (rd + (k : Int)) = rd + (k : Int) := IntWalk.i64_in _ (by omega)
  show Calls Try.prog 73 #[.agg #[.string (bs S), .int .i64 sent, .int .i64 rd, .bool eof], .int .i64 n] w
    fun e w' => e = .returned (.tuple #[.agg #[.string (bs (S.drop k)), .int .i64 sent, .int .i64 (rd + (k : Int)), .bool eof], .string (bs (S.take k))]) ∧ Below w.heap.size w w'
  rw [← bs_take, ← bs_drop]
  have hz : (bs S).size = S.length := rfl
  rw [← hz] at hk e1
  generalize bs S = s at *
  clear hz hS
  have e2 : (0 : Int) ≤ (k : Int) := by omega
  have e3 : (k : Int) ≤ (s.size : Int) := by omega
  go_enter Try.func73, Try.ntmps73
  go_wp2_with fail
  refine (rWithin _ _ _ _ (by omega)).mono ?_; rintro e w1 ⟨rfl, rfl⟩
  rw [e1]
  go_upto_region 3 with fail
  go_region
  go_wp2_with fail
  exact bodyPost_ret (v := .tuple #[.agg #[.string (s.extract k s.size), .int .i64 sent, .int .i64 (rd + (k : Int)), .bool eof], .string (s.extract 0 k)]) (by simp [results, Try.results73, go_sem]) rfl ⟨rfl, by (repeat' (first | exact Below.refl _ _ | assumption | apply Below.drew | apply below_drewN | refine Below.setCell ?_ (by first | assumption | (simp; done) | (simp <;> omega)) _ | refine Below.alloc ?_ (by first | exact Nat.le_refl _ | assumption | (simp; done) | (simp <;> omega)) _))⟩

theorem rwDrop (S : List UInt8) (sent rd : Int) (eof : Bool) (w : World) : Calls Try.prog 75 #[WV S sent rd eof] w
    fun e w' => e = .returned (WV [] sent rd true) ∧ Below w.heap.size w w' := by
  go_enter Try.func75, Try.ntmps75
  go_wp2_with fail
  exact bodyPost_ret (v := WV [] sent rd true) (by simp [results, Try.results75, go_sem]) rfl ⟨rfl, by (repeat' (first | exact Below.refl _ _ | assumption | apply Below.drew | apply below_drewN | refine Below.setCell ?_ (by first | assumption | (simp; done) | (simp <;> omega)) _ | refine Below.alloc ?_ (by first | exact Nat.le_refl _ | assumption | (simp; done) | (simp <;> omega)) _))⟩

theorem bs_some {S : List UInt8} (h : S ≠ []) : (bs S).toList.isEmpty = false := by
  rw [ByteArray.toList_eq]
  cases S with
  | nil => exact absurd rfl h
  | cons _ _ => rfl

set_option maxHeartbeats 4000000 in
theorem lwTold1 (b a : Nat) (lv : Value) (S : List UInt8) (sent rd n : Int) (eof : Bool) (ps : List ByteArray) (w : World) (h : Wir w b lv S sent rd eof a ps) (hS : S.length ≤ 500000) (s : ByteArray) (hs : s = bs S) (ov : Bool) (hov : (eof && ((S.length : Int) == 0)) = ov)
    (ho : eof = false ∧ ov = false ∨ eof = true ∧ ov = false ∧ s.toList.isEmpty = false ∨ eof = true ∧ ov = true ∧ s = ⟨#[]⟩) :
    Calls Try.prog 76 #[.pointer (some ⟨b, 0, none⟩), .agg #[.string s, .int .i64 sent, .int .i64 rd, .bool eof], .int .i64 n] w fun e w' => e = .returned (.bool true) ∧ Below w.heap.size w w' := by
  have hk : wK n S ≤ S.length := by unfold wK; omega
  have e1 : min (max n 0) (S.length : Int) = (wK n S : Int) := by unfold wK; omega
  have hz : (S.length : Nat) = s.size := by rw [hs]; rfl
  have f1 : ∀ u, Wir u b lv S sent rd eof a ps → Calls Try.prog 52 #[.pointer (some ⟨b, 0, none⟩)] u fun e w' => e = .returned (.int .i64 (s.size : Int)) ∧ u = w' := fun u h => by rw [← hz]; exact wLen _ _ _ _ _ _ _ _ _ h
  have f2 : ∀ u, Wir u b lv S sent rd eof a ps → Calls Try.prog 53 #[.pointer (some ⟨b, 0, none⟩)] u fun e w' => e = .returned (.bool eof) ∧ Below u.heap.size u w' := fun u h => wEof _ _ _ _ _ _ _ _ _ h
  have f3 : ∀ u, Wir u b lv S sent rd eof a ps → Calls Try.prog 77 #[.pointer (some ⟨b, 0, none⟩)] u fun e w' => e = .returned (.bool ov) ∧ Below u.heap.size u w' := fun u h => by rw [← hov]; exact wOver _ _ _ _ _ _ _ _ _ h
  have f4 : ∀ u, Wir u b lv S sent rd eof a ps → Calls Try.prog 70 #[.pointer (some ⟨b, 0, none⟩)] u fun e w' => e = .returned (.int .i64 sent) ∧ u = w' := fun u h => wSent _ _ _ _ _ _ _ _ _ h
  have f5 : ∀ u, Wir u b lv S sent rd eof a ps → Calls Try.prog 71 #[.pointer (some ⟨b, 0, none⟩)] u fun e w' => e = .returned (.int .i64 rd) ∧ u = w' := fun u h => wRead _ _ _ _ _ _ _ _ _ h
  have f6 : ∀ u, Wir u b lv S sent rd eof a ps → Calls Try.prog 69 #[.pointer (some ⟨b, 0, none⟩), .int .i64 n] u fun e w' => e = .returned (.string (s.extract 0 (wK n S))) ∧ Below u.heap.size u w' := fun u h => by rw [hs, bs_take]; exact wPeek _ _ _ _ _ _ _ _ _ _ h hS
  have f7 : ∀ u, Calls Try.prog 84 #[.int .i64 n, .int .i64 0, .int .i64 (s.size : Int)] u fun e w' => e = .returned (.int .i64 (wK n S : Int)) ∧ u = w' := fun u => by rw [← e1, hz]; exact rWithin _ _ _ _ (by omega)
  rw [hz] at hk
  generalize wK n S = k at *
  clear hov e1
  generalize hw0 : w.alloc (.cells #[.string s, .int .i64 sent, .int .i64 rd, .bool eof] 87) = w0
  have hb0 : Below w.heap.size w w0 := hw0 ▸ (Below.refl _ _).alloc (Nat.le_refl _) _
  have hp : Wir w0 b lv S sent rd eof a ps := h.later hb0
  have hkk : Blk w0 w.heap.size 87 #[.string s, .int .i64 sent, .int .i64 rd, .bool eof] := hw0 ▸ Blk.new _ _ _
  have HW0 := Lib.hid hw0
  have HS := Lib.hid hs
  have HZ := Lib.hid hz
  have HF1 := Lib.hid f1
  have HF2 := Lib.hid f2
  have HF3 := Lib.hid f3
  have HF4 := Lib.hid f4
  have HF5 := Lib.hid f5
  have HF6 := Lib.hid f6
  have HF7 := Lib.hid f7
  clear hw0 hs hz f1 f2 f3 f4 f5 f6 f7 h
  have d0 := hkk.at4
  have hr := Below.refl w0.heap.size w0
  have e3 : (0 : Int) ≤ (k : Int) := by omega
  have e4 : (k : Int) ≤ (s.size : Int) := by omega
  rcases ho with ⟨rfl, rfl⟩ | ⟨rfl, rfl, ho⟩ | ⟨rfl, rfl, rfl⟩
  all_goals (
    go_enter Try.func76, Try.ntmps76
    go_upto_region 1 with fail
    rw [HW0.out]
    have hu : ∀ u : Later w0.heap.size w0, Below w0.heap.size w0 u.world := Later.below
    refine wp_region_later w0.heap.size (by kernel_rfl) (by kernel_rfl) ?_
    repeat (go_big_quiet_step ((first | (go_at_call 52; exact later_same (HF1.out _ (hp.later (hu _)))) | (go_at_call 53; exact later_below (Nat.le_refl _) (HF2.out _ (hp.later (hu _)))) | (go_at_call 77; exact later_below (Nat.le_refl _) (HF3.out _ (hp.later (hu _)))) | (go_at_call 70; exact later_same (HF4.out _ (hp.later (hu _)))) | (go_at_call 71; exact later_same (HF5.out _ (hp.later (hu _)))) | (go_at_call 69; exact later_below (Nat.le_refl _) (HF6.out _ (hp.later (hu _)))) | (go_at_call 84; exact later_same (HF7.out _)))))
    refine wpQuiet_nil ?_
    intro w5 hb5
    go_wp2_with fail
    go_ret
    exact ⟨rfl, hb0.up hb5⟩)

theorem lwTold (b a : Nat) (lv : Value) (S : List UInt8) (sent rd n : Int) (eof : Bool) (ps : List ByteArray) (w : World) (h : Wir w b lv S sent rd eof a ps) (hS : S.length ≤ 500000) :
    Calls Try.prog 76 #[.pointer (some ⟨b, 0, none⟩), WV S sent rd eof, .int .i64 n] w fun e w' => e = .returned (.bool true) ∧ Below w.heap.size w w' := by
  cases eof with
  | false => exact lwTold1 b a lv S sent rd n false ps w h hS _ rfl false rfl (.inl ⟨rfl, rfl⟩)
  | true =>
    by_cases he : S = []
    · subst he
      exact lwTold1 b a lv [] sent rd n true ps w h hS _ rfl true rfl (.inr (.inr ⟨rfl, rfl, rfl⟩))
    · have : ((S.length : Int) == 0) = false := by
        cases S with
        | nil => exact absurd rfl he
        | cons x l => rw [beq_eq_false_iff_ne, List.length_cons]; omega
      exact lwTold1 b a lv S sent rd n true ps w h hS _ rfl false (by rw [this]; rfl) (.inr (.inl ⟨rfl, rfl, bs_some he⟩))
end Go.Proofs.Ytpnbcepljehogaa
