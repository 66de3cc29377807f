/-
  For every input WireOrders returns true and leaves its arguments as they read.
  Conditions: none.
-/
import Derived.Test.YtpnbcepljehogaaLaw
import Derived.Test.YtpnbcepljehogaaWireOrders
import Derived.Test.YtpnbcepljehogaaSliceAgg
namespace Go.Proofs.Ytpnbcepljehogaa.wireOrders
open Go.ChangeShapes Go.WideShapes Go.ChangeAt Go.RowKit Go.Joins Go.Deep
open Go.ChangeMaps (open_string shut_string)
set_option linter.unusedVariables false

theorem own : ownKnob Try.prog.godebug = none := by kernel_rfl
theorem laidOut : laidOutB Try.prog = true := by kernel_rfl

set_option maxRecDepth 100000 in
theorem core {H : Type} {enc : TypeId × Value → H} (W : World) (base : Nat) (args : Array Value) (ds : List (DataW H)) (before : List MemPlace)
    (hval0 : ∀ (j : Nat) t v, Try.f12.params[j]? = some t → args[j]? = some v → Value.okWide Try.prog W .any base t v)
    (hA0 : DataW.TrodAll enc Try.prog W 0 (fun _ => true) true Try.f12.params.toList args.toList ds before) (hlt0 : ∀ x ∈ before, x.block < W.heap.size) (hsh : W.ShapedOpen Try.prog) :
    Calls Try.prog 12 args W fun e W' => e = .returned (.bool true) ∧ Below W.heap.size W W' := by
  have hval := hval0
  have hA := hA0
  have hlt := hlt0
  rw [Try.params12] at hA hval
  obtain ⟨v0, vs0, d0, ds0, p0, q0, hargs, rfl, rfl, h0, r0⟩ := trodAll_cons hA
  obtain ⟨v1, vs1, d1, ds1, p1, q1, rfl, rfl, rfl, h1, r1⟩ := trodAll_cons r0
  obtain ⟨rfl, rfl, rfl⟩ := trodAll_nil r1
  obtain rfl : args = #[v0, v1] := by cases args; simp_all
  obtain ⟨ao0, len0, cap0, rfl, hml0, hcell0⟩ := open_strsArg Try.underlying83 Try.underlying9 (by kernel_rfl) (hval 0 83 v0 rfl rfl) h0
  obtain ⟨ao1, len1, cap1, zs1, rfl, hzl1, hml1, hcell1, hwf1⟩ := open_intsArg Try.underlying67 Try.underlying5 (by kernel_rfl) (hval 1 67 v1 rfl rfl) h1
  exact Go.Proofs.Ytpnbcepljehogaa.wireOrders ao0 ao1 cap0 len0 cap1 len1 W hml0 hml1 (fun i hi => by
    obtain ⟨b, off, S, e, hc, _⟩ := hcell0 i hi
    exact ⟨b, off, S, e, hc⟩) (fun i hi => by
    obtain ⟨b, off, e, hc⟩ := hcell1 i (by omega)
    exact ⟨b, off, _, e, hc, bd_u8 (hwf1 _ (List.getElem_mem _))⟩)

set_option maxRecDepth 100000 in
theorem lifted (os : Os) (started : os.Started) (H : Type) (enc : TypeId × Value → H) :
    ReturnsInHanded {} Try.checked os 12 .any (Rows.wireOrdersSpec.pre6 enc Try.prog Try.f12 Rows.wireOrdersRow.domain false) (Rows.wireOrdersSpec.post enc Try.prog Try.f12 false true false false) :=
  law_lifted (C := Try.checked) own started (by kernel_rfl) Try.func12
    (ChangeSpec.witness6 (enc := enc) (C := Try.checked) false ⟨#[], #[.slice none 0 0, .slice none 0 0], []⟩ 8 (by kernel_rfl) (by kernel_rfl) (by kernel_rfl) (by kernel_rfl))
    laidOut (by kernel_rfl) rfl Try.underlying4 rfl (fun ds h => by rw [Try.params12] at h; match ds, h with | [_, _], _ => rfl) (fun W base args ds before h1 h2 h3 _ h5 => core W base args ds before h1 h2 h3 h5)

theorem over : Rows.wireOrdersRow.holds Try.pinned (OpenSpec.ofChange Rows.wireOrdersSpec) :=
  OpenClaim.holds_of_wide 12 Try.f12 rfl rfl rfl rfl rfl rfl rfl ⟨rfl, rfl, rfl, rfl, rfl⟩ rfl rfl rfl rfl rfl (by kernel_rfl) Try.func12 (by kernel_rfl)
    (of_decide_eq_true (by kernel_rfl)) (by unfold Func.isWrapper; first | (rw [if_pos (by decide +kernel)]; kernel_rfl) | (rw [if_neg (by decide +kernel)]; exact ⟨rfl, rfl⟩))
    (fun os started H enc _ => lifted os started H enc)

theorem proved : Rows.WireOrdersSaid :=
  over
#print axioms proved
end Go.Proofs.Ytpnbcepljehogaa.wireOrders
