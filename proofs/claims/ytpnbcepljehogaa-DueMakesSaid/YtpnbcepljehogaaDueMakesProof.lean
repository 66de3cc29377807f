/-
  For every input DueMakes returns true and leaves its argument as it read.
  Conditions: none.
-/
import Derived.Test.YtpnbcepljehogaaLaw
import Derived.Test.YtpnbcepljehogaaDueLaws
namespace Go.Proofs.Ytpnbcepljehogaa.dueMakes
open Go.ChangeShapes Go.WideShapes Go.ChangeAt Go.RowKit Go.Joins Go.Deep

theorem own : ownKnob Try.prog.godebug = none := by kernel_rfl
theorem laidOut : laidOutB Try.prog = true := by kernel_rfl
theorem cellsA : Try.prog.cellsOf 23 = 5 := by kernel_rfl

set_option maxRecDepth 100000 in
theorem core {H : Type} {enc : TypeId × Value → H} (W : World) (base : Nat) (args : Array Value) (ds : List (DataW H)) (before : List MemPlace)
    (hval0 : ∀ (j : Nat) t v, Try.f4.params[j]? = some t → args[j]? = some v → Value.okWide Try.prog W .any base t v)
    (hA0 : DataW.TrodAll enc Try.prog W 0 (fun _ => true) true Try.f4.params.toList args.toList ds before) :
    Calls Try.prog 4 args W fun e W' => e = .returned (.bool true) ∧ Below W.heap.size W W' := by
  have hval := hval0
  have hA := hA0
  rw [Try.params4] at hA hval
  obtain ⟨v0, vs0, d0, ds0, p0, q0, hargs, rfl, rfl, h0, r0⟩ := trodAll_cons hA
  obtain ⟨rfl, rfl, rfl⟩ := trodAll_nil r0
  obtain rfl : args = #[v0] := by cases args; simp_all
  obtain ⟨c0, c1, c2, c3, c4, y0, y1, y2, y3, y4, m, rfl, rfl, rfl, t0, t1, t2, t3, t4⟩ := open_agg5 Try.underlying23 (by kernel_rfl) cellsA (hval 0 23 v0 rfl rfl) h0
  obtain ⟨a0, rfl, w0⟩ := field_int Try.underlying2 t0
  obtain ⟨a1, rfl, w1⟩ := field_int Try.underlying2 t1
  obtain ⟨a2, rfl, w2⟩ := field_int Try.underlying2 t2
  obtain ⟨a3, rfl, w3⟩ := field_int Try.underlying2 t3
  obtain ⟨a4, rfl, w4⟩ := field_int Try.underlying2 t4
  exact Go.Proofs.Ytpnbcepljehogaa.dueMakes a0 a1 a2 a3 a4 (bd_i64 w0) (bd_i64 w1) (bd_i64 w2) (bd_i64 w4) W

set_option maxRecDepth 100000 in
theorem lifted (os : Os) (started : os.Started) (H : Type) (enc : TypeId × Value → H) :
    ReturnsInHanded {} Try.checked os 4 .any (Rows.dueMakesSpec.pre6 enc Try.prog Try.f4 Rows.dueMakesRow.domain false) (Rows.dueMakesSpec.post enc Try.prog Try.f4 false true false false) :=
  law_lifted (C := Try.checked) own started (by kernel_rfl) Try.func4
    (ChangeSpec.witness6 (enc := enc) (C := Try.checked) false ⟨#[], #[.agg #[.int .i64 0, .int .i64 0, .int .i64 0, .int .i64 0, .int .i64 0]], []⟩ 8 (by kernel_rfl) (by kernel_rfl) (by kernel_rfl) (by kernel_rfl))
    laidOut (by kernel_rfl) rfl Try.underlying4 rfl (fun ds h => by rw [Try.params4] at h; match ds, h with | [_], _ => rfl) (fun W base args ds before h1 h2 _ _ _ => core W base args ds before h1 h2)

theorem over : Rows.dueMakesRow.holds Try.pinned (OpenSpec.ofChange Rows.dueMakesSpec) :=
  OpenClaim.holds_of_wide 4 Try.f4 rfl rfl rfl rfl rfl rfl rfl ⟨rfl, rfl, rfl, rfl, rfl⟩ rfl rfl rfl rfl rfl (by kernel_rfl) Try.func4 (by kernel_rfl)
    (of_decide_eq_true (by kernel_rfl)) (by unfold Func.isWrapper; first | (rw [if_pos (by decide +kernel)]; kernel_rfl) | (rw [if_neg (by decide +kernel)]; exact ⟨rfl, rfl⟩))
    (fun os started H enc _ => lifted os started H enc)

theorem proved : Rows.DueMakesSaid :=
  over
#print axioms proved
end Go.Proofs.Ytpnbcepljehogaa.dueMakes
