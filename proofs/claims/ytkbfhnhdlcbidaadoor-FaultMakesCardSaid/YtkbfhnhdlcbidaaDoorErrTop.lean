/-
  Contracts of errors.As at the three targets of package fault: which error of a chain is found.
  Conditions: the handle of the type error is laid; the target is a variable of the call's own.
-/
import Derived.Test.YtkbfhnhdlcbidaaDoorErrAs
namespace Go.Proofs.YtkbfhnhdlcbidaaDoor
open Go.RowKit Go.Sort Go.Extern.Stop Go.Stop Go.Extern

set_option maxHeartbeats 4000000 in
set_option maxRecDepth 100000 in
theorem eAsTopErrno (tb : Nat) (old : Value) (en : Int) (ws : List Wr) (v : Value) (w : World) (hc : Chain w en ws v) (ht : Blk w tb 23 #[old]) (hg : HandleE w) :
    Calls Tryd.prog 46 #[v, .iface 75 (.pointer (some ⟨tb, 0, none⟩))] w (AsPostErrno tb en ws w) := by
  have h6 := @run_callFunc_extern Tryd.prog 57 _ (fun args => ReflectliteValue.unpack (args.getD 0 (.tuple #[]))) Tryd.func57 (by kernel_rfl) (by kernel_rfl) (by kernel_rfl) (by kernel_rfl)
  have h7 := @run_callFunc_extern Tryd.prog 58 _ (ReflectliteValue.methodAny (ReflectliteValue.valueError "reflectlite.Value.Type" 0) (fun t _ _ _ => ReflectliteType.toType t)) Tryd.func58 (by kernel_rfl) (by kernel_rfl) (by kernel_rfl) (by kernel_rfl)
  have h8 := @run_callFunc_extern Tryd.prog 59 _ (ReflectliteValue.method (ReflectliteValue.valueError "reflectlite.Value.IsNil" 0) ReflectliteValue.isNil) Tryd.func59 (by kernel_rfl) (by kernel_rfl) (by kernel_rfl) (by kernel_rfl)
  have h27 := @run_callFunc_extern Tryd.prog 103 _ (ReflectliteType.abiMethod fun t => do pure (.int .u8 (← Rtype.kind t))) Tryd.func103 (by kernel_rfl) (by kernel_rfl) (by kernel_rfl) (by kernel_rfl)
  have h37 := @run_callFunc_extern Tryd.prog 112 _ (ReflectliteType.method ReflectliteType.elem) Tryd.func112 (by kernel_rfl) (by kernel_rfl) (by kernel_rfl) (by kernel_rfl)
  have h38 := @run_callFunc_extern Tryd.prog 113 _ (ReflectliteType.relation "Implements" ReflectliteType.implements_) Tryd.func113 (by kernel_rfl) (by kernel_rfl) (by kernel_rfl) (by kernel_rfl)
  have f6 := rValueOfPErrno
  have f7 := rTypePErrno
  have mK := rMethodKind
  have mE := rMethodElem
  have mI := rMethodImplements
  have k27 := rKindPErrno
  have k25 := rKindErrno
  have e27 := rElemPErrno
  have i25 := rImplErrno
  obtain ⟨W1, hW1⟩ : ∃ W1, W1 = w.alloc (.cells #[.pointer (some ⟨tb, 0, none⟩)] 75) := ⟨_, rfl⟩
  obtain ⟨W2, hW2⟩ : ∃ W2, W2 = W1.alloc (.cells #[.pointer (some ⟨6, 75, none⟩), .pointer (some ⟨w.heap.size, 0, none⟩), .int .u64 150] 87) := ⟨_, rfl⟩
  have hb1 : Below w.heap.size w W1 := by rw [hW1]; exact (Below.refl _ _).alloc (Nat.le_refl _) _
  have hb2' : Below W1.heap.size W1 W2 := by rw [hW2]; exact (Below.refl _ _).alloc (Nat.le_refl _) _
  have hb2 := hb1.up hb2'
  have ka : Blk W1 w.heap.size 75 #[.pointer (some ⟨tb, 0, none⟩)] := by rw [hW1]; exact Blk.new _ _ _
  have ka2 := ka.later hb2'
  have kq : Blk W2 W1.heap.size 87 #[.pointer (some ⟨6, 75, none⟩), .pointer (some ⟨w.heap.size, 0, none⟩), .int .u64 150] := by rw [hW2]; exact Blk.new _ _ _
  have n8 := rIsNilErrno ⟨w.heap.size, 0, none⟩ ⟨tb, 0, none⟩ W2 (blk_cell ka2)
  have hg2 : W2.cell? ⟨0, 0, none⟩ = some (.iface 101 (.agg #[.pointer (some ⟨6, 28, none⟩)])) := handle_later hg hb2
  have G1 := Lib.hid (eAsErrno tb w.heap.size old en ws v W2 (chain_later hb2 hc) (ht.later hb2) ka2)
  have hle : tb ≤ w.heap.size := Nat.le_of_lt ht.lt
  have HLE := Lib.hid hle
  have HB := Lib.hid hb2
  have HW1 := Lib.hid hW1
  have HW2 := Lib.hid hW2
  have hsz : W1.heap.size = w.heap.size + 1 := by rw [hW1]; simp
  have dq := kq.at3
  have hr := Below.refl W2.heap.size W2
  obtain ⟨ti, ui, rfl⟩ := chain_iface hc
  rw [hsz] at dq
  clear hW1 hW2 hb1 hb2' hb2 ka ka2 kq hc ht hg hle hsz
  go_enter Tryd.func46, Tryd.ntmps46
  go_upto_region 6 with fail
  rw [← HW1.out, ← HW2.out]
  go_wp2_with fail
  refine G1.out.mono ?_
  intro e w3 h3
  obtain ⟨rfl, hk, hb⟩ := h3
  have HKK := Lib.hid hk
  clear hk
  go_wp2_with fail
  go_ret
  exact ⟨rfl, HKK.out, (HB.out.mono HLE.out).trans hb⟩

set_option maxHeartbeats 4000000 in
set_option maxRecDepth 100000 in
theorem eAsTopAt (tb : Nat) (old : Value) (en : Int) (ws : List Wr) (v : Value) (w : World) (hc : Chain w en ws v) (ht : Blk w tb 43 #[old]) (hg : HandleE w) :
    Calls Tryd.prog 46 #[v, .iface 73 (.pointer (some ⟨tb, 0, none⟩))] w (AsPostAt tb en ws w) := by
  have h6 := @run_callFunc_extern Tryd.prog 57 _ (fun args => ReflectliteValue.unpack (args.getD 0 (.tuple #[]))) Tryd.func57 (by kernel_rfl) (by kernel_rfl) (by kernel_rfl) (by kernel_rfl)
  have h7 := @run_callFunc_extern Tryd.prog 58 _ (ReflectliteValue.methodAny (ReflectliteValue.valueError "reflectlite.Value.Type" 0) (fun t _ _ _ => ReflectliteType.toType t)) Tryd.func58 (by kernel_rfl) (by kernel_rfl) (by kernel_rfl) (by kernel_rfl)
  have h8 := @run_callFunc_extern Tryd.prog 59 _ (ReflectliteValue.method (ReflectliteValue.valueError "reflectlite.Value.IsNil" 0) ReflectliteValue.isNil) Tryd.func59 (by kernel_rfl) (by kernel_rfl) (by kernel_rfl) (by kernel_rfl)
  have h27 := @run_callFunc_extern Tryd.prog 103 _ (ReflectliteType.abiMethod fun t => do pure (.int .u8 (← Rtype.kind t))) Tryd.func103 (by kernel_rfl) (by kernel_rfl) (by kernel_rfl) (by kernel_rfl)
  have h37 := @run_callFunc_extern Tryd.prog 112 _ (ReflectliteType.method ReflectliteType.elem) Tryd.func112 (by kernel_rfl) (by kernel_rfl) (by kernel_rfl) (by kernel_rfl)
  have h38 := @run_callFunc_extern Tryd.prog 113 _ (ReflectliteType.relation "Implements" ReflectliteType.implements_) Tryd.func113 (by kernel_rfl) (by kernel_rfl) (by kernel_rfl) (by kernel_rfl)
  have f6 := rValueOfPAt
  have f7 := rTypePAt
  have mK := rMethodKind
  have mE := rMethodElem
  have mI := rMethodImplements
  have k27 := rKindPAt
  have k25 := rKindAt
  have e27 := rElemPAt
  have i25 := rImplAt
  obtain ⟨W1, hW1⟩ : ∃ W1, W1 = w.alloc (.cells #[.pointer (some ⟨tb, 0, none⟩)] 73) := ⟨_, rfl⟩
  obtain ⟨W2, hW2⟩ : ∃ W2, W2 = W1.alloc (.cells #[.pointer (some ⟨6, 73, none⟩), .pointer (some ⟨w.heap.size, 0, none⟩), .int .u64 150] 87) := ⟨_, rfl⟩
  have hb1 : Below w.heap.size w W1 := by rw [hW1]; exact (Below.refl _ _).alloc (Nat.le_refl _) _
  have hb2' : Below W1.heap.size W1 W2 := by rw [hW2]; exact (Below.refl _ _).alloc (Nat.le_refl _) _
  have hb2 := hb1.up hb2'
  have ka : Blk W1 w.heap.size 73 #[.pointer (some ⟨tb, 0, none⟩)] := by rw [hW1]; exact Blk.new _ _ _
  have ka2 := ka.later hb2'
  have kq : Blk W2 W1.heap.size 87 #[.pointer (some ⟨6, 73, none⟩), .pointer (some ⟨w.heap.size, 0, none⟩), .int .u64 150] := by rw [hW2]; exact Blk.new _ _ _
  have n8 := rIsNilAt ⟨w.heap.size, 0, none⟩ ⟨tb, 0, none⟩ W2 (blk_cell ka2)
  have hg2 : W2.cell? ⟨0, 0, none⟩ = some (.iface 101 (.agg #[.pointer (some ⟨6, 28, none⟩)])) := handle_later hg hb2
  have G1 := Lib.hid (eAsAt tb w.heap.size old en ws v W2 (chain_later hb2 hc) (ht.later hb2) ka2)
  have hle : tb ≤ w.heap.size := Nat.le_of_lt ht.lt
  have HLE := Lib.hid hle
  have HB := Lib.hid hb2
  have HW1 := Lib.hid hW1
  have HW2 := Lib.hid hW2
  have hsz : W1.heap.size = w.heap.size + 1 := by rw [hW1]; simp
  have dq := kq.at3
  have hr := Below.refl W2.heap.size W2
  obtain ⟨ti, ui, rfl⟩ := chain_iface hc
  rw [hsz] at dq
  clear hW1 hW2 hb1 hb2' hb2 ka ka2 kq hc ht hg hle hsz
  go_enter Tryd.func46, Tryd.ntmps46
  go_upto_region 6 with fail
  rw [← HW1.out, ← HW2.out]
  go_wp2_with fail
  refine G1.out.mono ?_
  intro e w3 h3
  rcases h3 with ⟨W, p, v', hf, rfl, hk, hp, hb⟩ | ⟨hf, rfl, hb⟩
  · have HKK := Lib.hid hk
    have HF := Lib.hid hf
    have HP := Lib.hid hp
    clear hk hf hp
    go_wp2_with fail
    go_ret
    unfold AsPostAt
    exact .inl ⟨W, p, v', HF.out, rfl, HKK.out, HP.out, (HB.out.mono HLE.out).trans hb⟩
  · have HF := Lib.hid hf
    clear hf
    go_wp2_with fail
    go_ret
    unfold AsPostAt
    exact .inr ⟨HF.out, rfl, (HB.out.mono HLE.out).trans hb⟩

set_option maxHeartbeats 4000000 in
set_option maxRecDepth 100000 in
theorem eAsTopIn (tb : Nat) (old : Value) (en : Int) (ws : List Wr) (v : Value) (w : World) (hc : Chain w en ws v) (ht : Blk w tb 46 #[old]) (hg : HandleE w) :
    Calls Tryd.prog 46 #[v, .iface 74 (.pointer (some ⟨tb, 0, none⟩))] w (AsPostIn tb en ws w) := by
  have h6 := @run_callFunc_extern Tryd.prog 57 _ (fun args => ReflectliteValue.unpack (args.getD 0 (.tuple #[]))) Tryd.func57 (by kernel_rfl) (by kernel_rfl) (by kernel_rfl) (by kernel_rfl)
  have h7 := @run_callFunc_extern Tryd.prog 58 _ (ReflectliteValue.methodAny (ReflectliteValue.valueError "reflectlite.Value.Type" 0) (fun t _ _ _ => ReflectliteType.toType t)) Tryd.func58 (by kernel_rfl) (by kernel_rfl) (by kernel_rfl) (by kernel_rfl)
  have h8 := @run_callFunc_extern Tryd.prog 59 _ (ReflectliteValue.method (ReflectliteValue.valueError "reflectlite.Value.IsNil" 0) ReflectliteValue.isNil) Tryd.func59 (by kernel_rfl) (by kernel_rfl) (by kernel_rfl) (by kernel_rfl)
  have h27 := @run_callFunc_extern Tryd.prog 103 _ (ReflectliteType.abiMethod fun t => do pure (.int .u8 (← Rtype.kind t))) Tryd.func103 (by kernel_rfl) (by kernel_rfl) (by kernel_rfl) (by kernel_rfl)
  have h37 := @run_callFunc_extern Tryd.prog 112 _ (ReflectliteType.method ReflectliteType.elem) Tryd.func112 (by kernel_rfl) (by kernel_rfl) (by kernel_rfl) (by kernel_rfl)
  have h38 := @run_callFunc_extern Tryd.prog 113 _ (ReflectliteType.relation "Implements" ReflectliteType.implements_) Tryd.func113 (by kernel_rfl) (by kernel_rfl) (by kernel_rfl) (by kernel_rfl)
  have f6 := rValueOfPIn
  have f7 := rTypePIn
  have mK := rMethodKind
  have mE := rMethodElem
  have mI := rMethodImplements
  have k27 := rKindPIn
  have k25 := rKindIn
  have e27 := rElemPIn
  have i25 := rImplIn
  obtain ⟨W1, hW1⟩ : ∃ W1, W1 = w.alloc (.cells #[.pointer (some ⟨tb, 0, none⟩)] 74) := ⟨_, rfl⟩
  obtain ⟨W2, hW2⟩ : ∃ W2, W2 = W1.alloc (.cells #[.pointer (some ⟨6, 74, none⟩), .pointer (some ⟨w.heap.size, 0, none⟩), .int .u64 150] 87) := ⟨_, rfl⟩
  have hb1 : Below w.heap.size w W1 := by rw [hW1]; exact (Below.refl _ _).alloc (Nat.le_refl _) _
  have hb2' : Below W1.heap.size W1 W2 := by rw [hW2]; exact (Below.refl _ _).alloc (Nat.le_refl _) _
  have hb2 := hb1.up hb2'
  have ka : Blk W1 w.heap.size 74 #[.pointer (some ⟨tb, 0, none⟩)] := by rw [hW1]; exact Blk.new _ _ _
  have ka2 := ka.later hb2'
  have kq : Blk W2 W1.heap.size 87 #[.pointer (some ⟨6, 74, none⟩), .pointer (some ⟨w.heap.size, 0, none⟩), .int .u64 150] := by rw [hW2]; exact Blk.new _ _ _
  have n8 := rIsNilIn ⟨w.heap.size, 0, none⟩ ⟨tb, 0, none⟩ W2 (blk_cell ka2)
  have hg2 : W2.cell? ⟨0, 0, none⟩ = some (.iface 101 (.agg #[.pointer (some ⟨6, 28, none⟩)])) := handle_later hg hb2
  have G1 := Lib.hid (eAsIn tb w.heap.size old en ws v W2 (chain_later hb2 hc) (ht.later hb2) ka2)
  have hle : tb ≤ w.heap.size := Nat.le_of_lt ht.lt
  have HLE := Lib.hid hle
  have HB := Lib.hid hb2
  have HW1 := Lib.hid hW1
  have HW2 := Lib.hid hW2
  have hsz : W1.heap.size = w.heap.size + 1 := by rw [hW1]; simp
  have dq := kq.at3
  have hr := Below.refl W2.heap.size W2
  obtain ⟨ti, ui, rfl⟩ := chain_iface hc
  rw [hsz] at dq
  clear hW1 hW2 hb1 hb2' hb2 ka ka2 kq hc ht hg hle hsz
  go_enter Tryd.func46, Tryd.ntmps46
  go_upto_region 6 with fail
  rw [← HW1.out, ← HW2.out]
  go_wp2_with fail
  refine G1.out.mono ?_
  intro e w3 h3
  rcases h3 with ⟨W, p, v', hf, rfl, hk, hp, hb⟩ | ⟨hf, rfl, hb⟩
  · have HKK := Lib.hid hk
    have HF := Lib.hid hf
    have HP := Lib.hid hp
    clear hk hf hp
    go_wp2_with fail
    go_ret
    unfold AsPostIn
    exact .inl ⟨W, p, v', HF.out, rfl, HKK.out, HP.out, (HB.out.mono HLE.out).trans hb⟩
  · have HF := Lib.hid hf
    clear hf
    go_wp2_with fail
    go_ret
    unfold AsPostIn
    exact .inr ⟨HF.out, rfl, (HB.out.mono HLE.out).trans hb⟩

end Go.Proofs.YtkbfhnhdlcbidaaDoor
