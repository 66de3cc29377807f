/-
  For every input CostWaits returns true and leaves its arguments as they read.
  Conditions: none.
-/
import Derived.Test.YtpnbcepljehogaaLaw
import Derived.Test.YtpnbcepljehogaaCostLaws
namespace Go.Proofs.Ytpnbcepljehogaa.costWaits
open Go.ChangeShapes Go.WideShapes Go.ChangeAt Go.RowKit Go.Joins Go.Deep
open Go.ChangeMaps (open_string shut_string)
set_option linter.unusedVariables false

theorem own : ownKnob Try.prog.godebug = none := by kernel_rfl
theorem laidOut : laidOutB Try.prog = true := by kernel_rfl
theorem cells0 : Try.prog.cellsOf 73 = 6 := by kernel_rfl

set_option maxRecDepth 100000 in
theorem core {H : Type} {enc : TypeId × Value → H} (W : World) (base : Nat) (args : Array Value) (ds : List (DataW H)) (before : List MemPlace)
    (hval0 : ∀ (j : Nat) t v, Try.f10.params[j]? = some t → args[j]? = some v → Value.okWide Try.prog W .any base t v)
    (hA0 : DataW.TrodAll enc Try.prog W 0 (fun _ => true) true Try.f10.params.toList args.toList ds before) (hlt0 : ∀ x ∈ before, x.block < W.heap.size) (hsh : W.ShapedOpen Try.prog) :
    Calls Try.prog 10 args W fun e W' => e = .returned (.bool true) ∧ Below W.heap.size W W' := by
  have hval := hval0
  have hA := hA0
  have hlt := hlt0
  rw [Try.params10] at hA hval
  obtain ⟨v0, vs0, d0, ds0, p0, q0, hargs, rfl, rfl, h0, r0⟩ := trodAll_cons hA
  obtain ⟨v1, vs1, d1, ds1, p1, q1, rfl, rfl, rfl, h1, r1⟩ := trodAll_cons r0
  obtain ⟨v2, vs2, d2, ds2, p2, q2, rfl, rfl, rfl, h2, r2⟩ := trodAll_cons r1
  obtain ⟨rfl, rfl, rfl⟩ := trodAll_nil r2
  obtain rfl : args = #[v0, v1, v2] := by cases args; simp_all
  obtain ⟨b0_0, b0_1, b0_2, b0_3, b0_4, b0_5, y0_0, y0_1, y0_2, y0_3, y0_4, y0_5, m0, rfl, rfl, rfl, t0_0, t0_1, t0_2, t0_3, t0_4, t0_5⟩ := open_agg6 Try.underlying73 (by kernel_rfl) cells0 (hval 0 73 v0 rfl rfl) h0
  obtain ⟨a0_0, rfl, w0_0⟩ := field_int Try.underlying3 t0_0
  obtain ⟨a0_1, rfl, w0_1⟩ := field_int Try.underlying3 t0_1
  obtain ⟨a0_2, rfl, w0_2⟩ := field_int Try.underlying3 t0_2
  obtain ⟨a0_3, rfl, w0_3⟩ := field_int Try.underlying3 t0_3
  obtain ⟨a0_4, rfl, w0_4⟩ := field_int Try.underlying3 t0_4
  obtain ⟨a0_5, rfl, w0_5⟩ := field_int Try.underlying3 t0_5
  obtain ⟨a1, rfl, rfl, rfl, w1⟩ := open_int Try.underlying2 (hval 1 2 v1 rfl rfl) h1
  obtain ⟨a2, rfl, rfl, rfl, w2⟩ := open_int Try.underlying2 (hval 2 2 v2 rfl rfl) h2
  exact Go.Proofs.Ytpnbcepljehogaa.costWaits _ _ _ _ _ _ _ _ (bd_i64 w1) (bd_i64 w2) W

set_option maxRecDepth 100000 in
theorem lifted (os : Os) (started : os.Started) (H : Type) (enc : TypeId × Value → H) :
    ReturnsInHanded {} Try.checked os 10 .any (Rows.costWaitsSpec.pre6 enc Try.prog Try.f10 Rows.costWaitsRow.domain false) (Rows.costWaitsSpec.post enc Try.prog Try.f10 false true false false) :=
  law_lifted (C := Try.checked) own started (by kernel_rfl) Try.func10
    (ChangeSpec.witness6 (enc := enc) (C := Try.checked) false ⟨#[], #[.agg #[.int .i64 0, .int .i64 0, .int .i64 0, .int .i64 0, .int .i64 0, .int .i64 0], .int .i64 0, .int .i64 0], []⟩ 8 (by kernel_rfl) (by kernel_rfl) (by kernel_rfl) (by kernel_rfl))
    laidOut (by kernel_rfl) rfl Try.underlying4 rfl (fun ds h => by rw [Try.params10] at h; match ds, h with | [_, _, _], _ => rfl) (fun W base args ds before h1 h2 h3 _ h5 => core W base args ds before h1 h2 h3 h5)

theorem over : Rows.costWaitsRow.holds Try.pinned (OpenSpec.ofChange Rows.costWaitsSpec) :=
  OpenClaim.holds_of_wide 10 Try.f10 rfl rfl rfl rfl rfl rfl rfl ⟨rfl, rfl, rfl, rfl, rfl⟩ rfl rfl rfl rfl rfl (by kernel_rfl) Try.func10 (by kernel_rfl)
    (of_decide_eq_true (by kernel_rfl)) (by unfold Func.isWrapper; first | (rw [if_pos (by decide +kernel)]; kernel_rfl) | (rw [if_neg (by decide +kernel)]; exact ⟨rfl, rfl⟩))
    (fun os started H enc _ => lifted os started H enc)

theorem proved : Rows.CostWaitsSaid :=
  over
#print axioms proved
end Go.Proofs.Ytpnbcepljehogaa.costWaits
