/-
  For every input DueEnds returns true and leaves its arguments as they read.
  Conditions: none.
-/
import Derived.Test.YtpnbcepljehogaaLaw
import Derived.Test.YtpnbcepljehogaaDueEnds
namespace Go.Proofs.Ytpnbcepljehogaa.dueEnds
open Go.ChangeShapes Go.WideShapes Go.ChangeAt Go.RowKit Go.Joins Go.Deep
open Go.ChangeMaps (open_string shut_string)
set_option linter.unusedVariables false

theorem own : ownKnob Try.prog.godebug = none := by kernel_rfl
theorem laidOut : laidOutB Try.prog = true := by kernel_rfl
theorem cells2 : Try.prog.cellsOf 23 = 5 := by kernel_rfl

set_option maxRecDepth 100000 in
theorem core {H : Type} {enc : TypeId × Value → H} (W : World) (base : Nat) (args : Array Value) (ds : List (DataW H)) (before : List MemPlace)
    (hval0 : ∀ (j : Nat) t v, Try.f3.params[j]? = some t → args[j]? = some v → Value.okWide Try.prog W .any base t v)
    (hA0 : DataW.TrodAll enc Try.prog W 0 (fun _ => true) true Try.f3.params.toList args.toList ds before) (hlt0 : ∀ x ∈ before, x.block < W.heap.size) (hsh : W.ShapedOpen Try.prog) :
    Calls Try.prog 3 args W fun e W' => e = .returned (.bool true) ∧ Below W.heap.size W W' := by
  have hval := hval0
  have hA := hA0
  have hlt := hlt0
  rw [Try.params3] at hA hval
  obtain ⟨v0, vs0, d0, ds0, p0, q0, hargs, rfl, rfl, h0, r0⟩ := trodAll_cons hA
  obtain ⟨v1, vs1, d1, ds1, p1, q1, rfl, rfl, rfl, h1, r1⟩ := trodAll_cons r0
  obtain ⟨v2, vs2, d2, ds2, p2, q2, rfl, rfl, rfl, h2, r2⟩ := trodAll_cons r1
  obtain ⟨rfl, rfl, rfl⟩ := trodAll_nil r2
  obtain rfl : args = #[v0, v1, v2] := by cases args; simp_all
  obtain ⟨a0, rfl, rfl, rfl, w0⟩ := open_int Try.underlying2 (hval 0 2 v0 rfl rfl) h0
  obtain ⟨a1, rfl, rfl, rfl, w1⟩ := open_int Try.underlying2 (hval 1 2 v1 rfl rfl) h1
  obtain ⟨b2_0, b2_1, b2_2, b2_3, b2_4, y2_0, y2_1, y2_2, y2_3, y2_4, m2, rfl, rfl, rfl, t2_0, t2_1, t2_2, t2_3, t2_4⟩ := open_agg5 Try.underlying23 (by kernel_rfl) cells2 (hval 2 23 v2 rfl rfl) h2
  obtain ⟨a2_0, rfl, w2_0⟩ := field_int Try.underlying2 t2_0
  obtain ⟨a2_1, rfl, w2_1⟩ := field_int Try.underlying2 t2_1
  obtain ⟨a2_2, rfl, w2_2⟩ := field_int Try.underlying2 t2_2
  obtain ⟨a2_3, rfl, w2_3⟩ := field_int Try.underlying2 t2_3
  obtain ⟨a2_4, rfl, w2_4⟩ := field_int Try.underlying2 t2_4
  exact Go.Proofs.Ytpnbcepljehogaa.dueEnds_walk a0 a1 a2_0 a2_1 a2_2 a2_3 a2_4 _ _ (bd_i64 w0) (bd_i64 w1) (bd_i64 w2_2) (bd_i64 w2_3) (bd_i64 w2_4) rfl rfl W

set_option maxRecDepth 100000 in
theorem lifted (os : Os) (started : os.Started) (H : Type) (enc : TypeId × Value → H) :
    ReturnsInHanded {} Try.checked os 3 .any (Rows.dueEndsSpec.pre6 enc Try.prog Try.f3 Rows.dueEndsRow.domain false) (Rows.dueEndsSpec.post enc Try.prog Try.f3 false true false false) :=
  law_lifted (C := Try.checked) own started (by kernel_rfl) Try.func3
    (ChangeSpec.witness6 (enc := enc) (C := Try.checked) false ⟨#[], #[.int .i64 0, .int .i64 0, .agg #[.int .i64 0, .int .i64 0, .int .i64 0, .int .i64 0, .int .i64 0]], []⟩ 8 (by kernel_rfl) (by kernel_rfl) (by kernel_rfl) (by kernel_rfl))
    laidOut (by kernel_rfl) rfl Try.underlying4 rfl (fun ds h => by rw [Try.params3] at h; match ds, h with | [_, _, _], _ => rfl) (fun W base args ds before h1 h2 h3 _ h5 => core W base args ds before h1 h2 h3 h5)

theorem over : Rows.dueEndsRow.holds Try.pinned (OpenSpec.ofChange Rows.dueEndsSpec) :=
  OpenClaim.holds_of_wide 3 Try.f3 rfl rfl rfl rfl rfl rfl rfl ⟨rfl, rfl, rfl, rfl, rfl⟩ rfl rfl rfl rfl rfl (by kernel_rfl) Try.func3 (by kernel_rfl)
    (of_decide_eq_true (by kernel_rfl)) (by unfold Func.isWrapper; first | (rw [if_pos (by decide +kernel)]; kernel_rfl) | (rw [if_neg (by decide +kernel)]; exact ⟨rfl, rfl⟩))
    (fun os started H enc _ => lifted os started H enc)

theorem proved : Rows.DueEndsSaid :=
  over
#print axioms proved
end Go.Proofs.Ytpnbcepljehogaa.dueEnds
