/-
  For every input CostPrices returns true and leaves its arguments as they read.
  Conditions: none.
-/
import Derived.Test.YtpnbcepljehogaaLaw
import Derived.Test.YtpnbcepljehogaaCostLaws
namespace Go.Proofs.Ytpnbcepljehogaa.costPrices
open Go.ChangeShapes Go.WideShapes Go.ChangeAt Go.RowKit Go.Joins Go.Deep
open Go.ChangeMaps (open_string shut_string)
set_option linter.unusedVariables false

theorem own : ownKnob Try.prog.godebug = none := by kernel_rfl
theorem laidOut : laidOutB Try.prog = true := by kernel_rfl
theorem cells0 : Try.prog.cellsOf 73 = 6 := by kernel_rfl
theorem cells1 : Try.prog.cellsOf 75 = 3 := by kernel_rfl

set_option maxRecDepth 100000 in
theorem core {H : Type} {enc : TypeId × Value → H} (W : World) (base : Nat) (args : Array Value) (ds : List (DataW H)) (before : List MemPlace)
    (hval0 : ∀ (j : Nat) t v, Try.f9.params[j]? = some t → args[j]? = some v → Value.okWide Try.prog W .any base t v)
    (hA0 : DataW.TrodAll enc Try.prog W 0 (fun _ => true) true Try.f9.params.toList args.toList ds before) (hlt0 : ∀ x ∈ before, x.block < W.heap.size) (hsh : W.ShapedOpen Try.prog) :
    Calls Try.prog 9 args W fun e W' => e = .returned (.bool true) ∧ Below W.heap.size W W' := by
  have hval := hval0
  have hA := hA0
  have hlt := hlt0
  rw [Try.params9] at hA hval
  obtain ⟨v0, vs0, d0, ds0, p0, q0, hargs, rfl, rfl, h0, r0⟩ := trodAll_cons hA
  obtain ⟨v1, vs1, d1, ds1, p1, q1, rfl, rfl, rfl, h1, r1⟩ := trodAll_cons r0
  obtain ⟨rfl, rfl, rfl⟩ := trodAll_nil r1
  obtain rfl : args = #[v0, v1] := by cases args; simp_all
  obtain ⟨b0_0, b0_1, b0_2, b0_3, b0_4, b0_5, y0_0, y0_1, y0_2, y0_3, y0_4, y0_5, m0, rfl, rfl, rfl, t0_0, t0_1, t0_2, t0_3, t0_4, t0_5⟩ := open_agg6 Try.underlying73 (by kernel_rfl) cells0 (hval 0 73 v0 rfl rfl) h0
  obtain ⟨a0_0, rfl, w0_0⟩ := field_int Try.underlying3 t0_0
  obtain ⟨a0_1, rfl, w0_1⟩ := field_int Try.underlying3 t0_1
  obtain ⟨a0_2, rfl, w0_2⟩ := field_int Try.underlying3 t0_2
  obtain ⟨a0_3, rfl, w0_3⟩ := field_int Try.underlying3 t0_3
  obtain ⟨a0_4, rfl, w0_4⟩ := field_int Try.underlying3 t0_4
  obtain ⟨a0_5, rfl, w0_5⟩ := field_int Try.underlying3 t0_5
  obtain ⟨b1_0, b1_1, b1_2, y1_0, y1_1, y1_2, m1, rfl, rfl, rfl, t1_0, t1_1, t1_2⟩ := open_agg3 Try.underlying75 (by kernel_rfl) cells1 (hval 1 75 v1 rfl rfl) h1
  obtain ⟨a1_0, rfl, w1_0⟩ := field_int Try.underlying3 t1_0
  obtain ⟨a1_1, rfl, w1_1⟩ := field_int Try.underlying3 t1_1
  obtain ⟨a1_2, rfl, w1_2⟩ := field_int Try.underlying3 t1_2
  exact Go.Proofs.Ytpnbcepljehogaa.costPrices _ _ _ _ _ _ _ _ _ W

set_option maxRecDepth 100000 in
theorem lifted (os : Os) (started : os.Started) (H : Type) (enc : TypeId × Value → H) :
    ReturnsInHanded {} Try.checked os 9 .any (Rows.costPricesSpec.pre6 enc Try.prog Try.f9 Rows.costPricesRow.domain false) (Rows.costPricesSpec.post enc Try.prog Try.f9 false true false false) :=
  law_lifted (C := Try.checked) own started (by kernel_rfl) Try.func9
    (ChangeSpec.witness6 (enc := enc) (C := Try.checked) false ⟨#[], #[.agg #[.int .i64 0, .int .i64 0, .int .i64 0, .int .i64 0, .int .i64 0, .int .i64 0], .agg #[.int .i64 0, .int .i64 0, .int .i64 0]], []⟩ 8 (by kernel_rfl) (by kernel_rfl) (by kernel_rfl) (by kernel_rfl))
    laidOut (by kernel_rfl) rfl Try.underlying4 rfl (fun ds h => by rw [Try.params9] at h; match ds, h with | [_, _], _ => rfl) (fun W base args ds before h1 h2 h3 _ h5 => core W base args ds before h1 h2 h3 h5)

theorem over : Rows.costPricesRow.holds Try.pinned (OpenSpec.ofChange Rows.costPricesSpec) :=
  OpenClaim.holds_of_wide 9 Try.f9 rfl rfl rfl rfl rfl rfl rfl ⟨rfl, rfl, rfl, rfl, rfl⟩ rfl rfl rfl rfl rfl (by kernel_rfl) Try.func9 (by kernel_rfl)
    (of_decide_eq_true (by kernel_rfl)) (by unfold Func.isWrapper; first | (rw [if_pos (by decide +kernel)]; kernel_rfl) | (rw [if_neg (by decide +kernel)]; exact ⟨rfl, rfl⟩))
    (fun os started H enc _ => lifted os started H enc)

theorem proved : Rows.CostPricesSaid :=
  over
#print axioms proved
end Go.Proofs.Ytpnbcepljehogaa.costPrices
