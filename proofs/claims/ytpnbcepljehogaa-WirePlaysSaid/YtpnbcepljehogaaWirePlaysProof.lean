/-
  For every input WirePlays returns true and leaves its arguments as they read.
  Conditions: none.
-/
import Derived.Test.YtpnbcepljehogaaLaw
import Derived.Test.YtpnbcepljehogaaWirePlays
import Derived.Test.YtpnbcepljehogaaSliceAgg
namespace Go.Proofs.Ytpnbcepljehogaa.wirePlays
open Go.ChangeShapes Go.WideShapes Go.ChangeAt Go.RowKit Go.Joins Go.Deep
open Go.ChangeMaps (open_string shut_string)
set_option linter.unusedVariables false

theorem own : ownKnob Try.prog.godebug = none := by kernel_rfl
theorem laidOut : laidOutB Try.prog = true := by kernel_rfl

set_option maxRecDepth 100000 in
theorem core {H : Type} {enc : TypeId × Value → H} (W : World) (base : Nat) (args : Array Value) (ds : List (DataW H)) (before : List MemPlace)
    (hval0 : ∀ (j : Nat) t v, Try.f13.params[j]? = some t → args[j]? = some v → Value.okWide Try.prog W .any base t v)
    (hA0 : DataW.TrodAll enc Try.prog W 0 (fun _ => true) true Try.f13.params.toList args.toList ds before) (hlt0 : ∀ x ∈ before, x.block < W.heap.size) (hsh : W.ShapedOpen Try.prog) :
    Calls Try.prog 13 args W fun e W' => e = .returned (.bool true) ∧ Below W.heap.size W W' := by
  have hval := hval0
  have hA := hA0
  have hlt := hlt0
  rw [Try.params13] at hA hval
  obtain ⟨v0, vs0, d0, ds0, p0, q0, hargs, rfl, rfl, h0, r0⟩ := trodAll_cons hA
  obtain ⟨v1, vs1, d1, ds1, p1, q1, rfl, rfl, rfl, h1, r1⟩ := trodAll_cons r0
  obtain ⟨rfl, rfl, rfl⟩ := trodAll_nil r1
  obtain rfl : args = #[v0, v1] := by cases args; simp_all
  obtain ⟨ao, len, cap, rfl, hml, hcell⟩ := open_cellsArg (c := 3) Try.underlying85 (by kernel_rfl) (by omega) (hval 0 85 v0 rfl rfl) h0
  obtain ⟨a1, rfl, rfl, rfl, w1⟩ := open_int Try.underlying3 (hval 1 3 v1 rfl rfl) h1
  exact Go.Proofs.Ytpnbcepljehogaa.wirePlays a1 ao cap len W hml (fun i hi => by
    obtain ⟨b, off, cs, n, y, e, hl, hc, hy⟩ := hcell i hi
    obtain ⟨c0, c1, c2, y0, y1, y2, n', rfl, t0, t1, t2⟩ := open_cells3 Try.underlying88 (by kernel_rfl) hl hy
    obtain ⟨k0, rfl, _⟩ := field_int Try.underlying3 t0
    obtain ⟨k1, rfl, _⟩ := field_string Try.underlying9 t1
    obtain ⟨k2, rfl, _⟩ := field_int Try.underlying3 t2
    exact ⟨b, off, k0, k1, k2, e, hc 0 (by omega), hc 1 (by omega), hc 2 (by omega)⟩)

set_option maxRecDepth 100000 in
theorem lifted (os : Os) (started : os.Started) (H : Type) (enc : TypeId × Value → H) :
    ReturnsInHanded {} Try.checked os 13 .any (Rows.wirePlaysSpec.pre6 enc Try.prog Try.f13 Rows.wirePlaysRow.domain false) (Rows.wirePlaysSpec.post enc Try.prog Try.f13 false true false false) :=
  law_lifted (C := Try.checked) own started (by kernel_rfl) Try.func13
    (ChangeSpec.witness6 (enc := enc) (C := Try.checked) false ⟨#[], #[.slice none 0 0, .int .i64 0], []⟩ 8 (by kernel_rfl) (by kernel_rfl) (by kernel_rfl) (by kernel_rfl))
    laidOut (by kernel_rfl) rfl Try.underlying4 rfl (fun ds h => by rw [Try.params13] at h; match ds, h with | [_, _], _ => rfl) (fun W base args ds before h1 h2 h3 _ h5 => core W base args ds before h1 h2 h3 h5)

theorem over : Rows.wirePlaysRow.holds Try.pinned (OpenSpec.ofChange Rows.wirePlaysSpec) :=
  OpenClaim.holds_of_wide 13 Try.f13 rfl rfl rfl rfl rfl rfl rfl ⟨rfl, rfl, rfl, rfl, rfl⟩ rfl rfl rfl rfl rfl (by kernel_rfl) Try.func13 (by kernel_rfl)
    (of_decide_eq_true (by kernel_rfl)) (by unfold Func.isWrapper; first | (rw [if_pos (by decide +kernel)]; kernel_rfl) | (rw [if_neg (by decide +kernel)]; exact ⟨rfl, rfl⟩))
    (fun os started H enc _ => lifted os started H enc)

theorem proved : Rows.WirePlaysSaid :=
  over
#print axioms proved
end Go.Proofs.Ytpnbcepljehogaa.wirePlays
