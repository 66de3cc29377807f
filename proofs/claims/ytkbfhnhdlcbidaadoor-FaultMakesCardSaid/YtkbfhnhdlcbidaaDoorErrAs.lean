/-
  Contracts of errors.as at the three targets of package fault: which error of a chain is found.
  Conditions: the target is a variable of the call's own.
-/
import Derived.Test.YtkbfhnhdlcbidaaDoorErrFacts
namespace Go.Proofs.YtkbfhnhdlcbidaaDoor
open Go.RowKit Go.Sort Go.Extern.Stop Go.Stop Go.Extern

def AsPostErrno (tb : Nat) (en : Int) (ws : List Wr) (w : World) (e : Ending) (w' : World) : Prop :=
  e = .returned (.bool true) ∧ Blk w' tb 23 #[.int .i64 en] ∧ Below tb w w'
set_option maxHeartbeats 4000000 in
set_option maxRecDepth 100000 in
theorem eAsErrno (tb a : Nat) (old : Value) (en : Int) (ws : List Wr) (v : Value) (w : World) (hc : Chain w en ws v) (ht : Blk w tb 23 #[old]) (ha : Blk w a 75 #[.pointer (some ⟨tb, 0, none⟩)]) :
    Calls Tryd.prog 60 #[v, .iface 75 (.pointer (some ⟨tb, 0, none⟩)), .agg #[.pointer (some ⟨6, 75, none⟩), .pointer (some ⟨a, 0, none⟩), .int .u64 150], .iface 101 (.agg #[.pointer (some ⟨6, 23, none⟩)])] w (AsPostErrno tb en ws w) := by
  have h6 := @run_callFunc_extern Tryd.prog 57 _ (fun args => ReflectliteValue.unpack (args.getD 0 (.tuple #[]))) Tryd.func57 (by kernel_rfl) (by kernel_rfl) (by kernel_rfl) (by kernel_rfl)
  have h10 := @run_callFunc_extern Tryd.prog 61 _ ReflectliteType.typeOf Tryd.func61 (by kernel_rfl) (by kernel_rfl) (by kernel_rfl) (by kernel_rfl)
  have h35 := @run_callFunc_extern Tryd.prog 110 _ (ReflectliteType.relation "AssignableTo" ReflectliteType.assignableTo) Tryd.func110 (by kernel_rfl) (by kernel_rfl) (by kernel_rfl) (by kernel_rfl)
  have h11 := @run_callFunc_extern Tryd.prog 67 _ (ReflectliteValue.method (ReflectliteValue.valueError "reflectlite.Value.Elem" 0) ReflectliteValue.elem) Tryd.func67 (by kernel_rfl) (by kernel_rfl) (by kernel_rfl) (by kernel_rfl)
  have h12 := @run_callFunc_extern Tryd.prog 68 _ ReflectliteValue.set Tryd.func68 (by kernel_rfl) (by kernel_rfl) (by kernel_rfl) (by kernel_rfl)
  have mA := rMethodAssignableTo
  have hlt : tb < w.heap.size := ht.lt
  have hchain := Lib.hid hc
  have HT := Lib.hid ht
  have HA := Lib.hid ha
  clear hc ht ha
  go_enter Tryd.func60, Tryd.ntmps60
  go_wp2_with fail
  generalize hw0 : w.alloc (.cells #[.pointer (some ⟨6, 75, none⟩), .pointer (some ⟨a, 0, none⟩), .int .u64 150] 87) = w0
  have hb0 : Below w.heap.size w w0 := by rw [← hw0]; exact (Below.refl _ _).alloc (Nat.le_refl _) _
  have hq0 : Blk w0 w.heap.size 87 #[.pointer (some ⟨6, 75, none⟩), .pointer (some ⟨a, 0, none⟩), .int .u64 150] := by rw [← hw0]; exact Blk.new _ _ _
  obtain ⟨q, hqq⟩ : ∃ q, w.heap.size = q := ⟨_, rfl⟩
  rw [hqq] at hq0
  try rw [hqq]
  clear hw0
  have HQ0 := Lib.hid hq0
  have HB0 := Lib.hid hb0
  have HLT := Lib.hid hlt
  clear hq0 hb0 hlt
  go_loopg [0] ws.length (fun n ev wr => ∃ us : List Wr, us.length = n ∧ Chain wr en us ev ∧ Blk wr q 87 #[.pointer (some ⟨6, 75, none⟩), .pointer (some ⟨a, 0, none⟩), .int .u64 150] ∧ Blk wr tb 23 #[old] ∧ Blk wr a 75 #[.pointer (some ⟨tb, 0, none⟩)] ∧ Below w.heap.size w wr)
  case atStart => exact ⟨ws, rfl, chain_later HB0.out hchain.out, HQ0.out, HT.out.later HB0.out, HA.out.later HB0.out, HB0.out⟩
  case round =>
    obtain ⟨us, rfl, hch, hq, htb, hab, hb⟩ := hrel
    clear HQ0 HB0 hchain HT HA
    rcases us with _ | ⟨⟨at_, l, c, n⟩, us⟩
    · obtain rfl := hch
      have q1 := rAssignErrnoErrno
      have q5 := rTypeOfErrno
      have q6 := rValueOfErrno
      have el := rElemVErrno ⟨a, 0, none⟩ ⟨tb, 0, none⟩ wr (blk_cell hab)
      have st := rSetErrno ⟨tb, 0, none⟩ ⟨wr.heap.size, 0, none⟩ (en) old (wr.alloc (.cells #[.int .i64 en] 23)) (blk_cell (Blk.new _ _ _)) (blk_cell (htb.alloc _)) ((htb.alloc _).frozen 0)
      have hset : Below tb wr ((wr.alloc (.cells #[.int .i64 en] 23)).setCell ⟨tb, 0, none⟩ (.int .i64 en)) := ((Below.refl _ _).alloc (Nat.le_of_lt htb.lt) _).setCell (p := ⟨tb, 0, none⟩) (Nat.le_refl _) _
      have dq := hq.at3
      have hr := Below.refl wr.heap.size wr
      have HS := Lib.hid hset
      clear hset
      go_wp2_with fail
      go_ret
      have hset := HS.out
      unfold AsPostErrno
      exact ⟨rfl, by simpa using (Blk.alloc htb _).set_ 0 (.int .i64 en), (hb.mono (Nat.le_of_lt HLT.out)).trans hset⟩
    · obtain ⟨p, v', hch, ⟨hat, rfl, hkb⟩ | ⟨hat, rfl, hkb⟩⟩ := hch
      · obtain rfl : at_ = true := hat
        have q1 := rAssignAtErrno
        have q2 := rNoAsAt
        have q3 := rUnAt
        have q4 := rMethodUnwrapAt
        have q5 := rTypeOfAt
        have HK := Lib.hid hkb
        obtain ⟨ti, ui, rfl⟩ := chain_iface hch
        have HCH := Lib.hid hch
        clear hkb hch
        go_wp2_with fail
        have hkb := HK.out
        refine (uAt _ _ _ _ _ hkb).mono ?_; rintro e w1 ⟨rfl, rfl⟩
        clear hkb
        go_wp2_with fail
        go_roundg us.length
        case measure => simp
        case rel => exact ⟨us, rfl, HCH.out, hq, htb, hab, hb⟩
      · obtain rfl : at_ = false := hat
        have q1 := rAssignInErrno
        have q2 := rNoAsIn
        have q3 := rUnIn
        have q4 := rMethodUnwrapIn
        have q5 := rTypeOfIn
        have HK := Lib.hid hkb
        obtain ⟨ti, ui, rfl⟩ := chain_iface hch
        have HCH := Lib.hid hch
        clear hkb hch
        go_wp2_with fail
        have hkb := HK.out
        refine (uIn _ _ _ _ hkb).mono ?_; rintro e w1 ⟨rfl, rfl⟩
        clear hkb
        go_wp2_with fail
        go_roundg us.length
        case measure => simp
        case rel => exact ⟨us, rfl, HCH.out, hq, htb, hab, hb⟩

def AsPostAt (tb : Nat) (en : Int) (ws : List Wr) (w : World) (e : Ending) (w' : World) : Prop :=
  (∃ W p v', ws.find? (·.at_) = some W ∧ e = .returned (.bool true) ∧ Blk w' tb 43 #[.pointer (some ⟨p, 0, none⟩)] ∧ Blk w' p 45 #[.int .i64 W.line, .int .i64 W.col, v'] ∧ Below tb w w') ∨ (ws.find? (·.at_) = none ∧ e = .returned (.bool false) ∧ Below tb w w')
set_option maxHeartbeats 4000000 in
set_option maxRecDepth 100000 in
theorem eAsAt (tb a : Nat) (old : Value) (en : Int) (ws : List Wr) (v : Value) (w : World) (hc : Chain w en ws v) (ht : Blk w tb 43 #[old]) (ha : Blk w a 73 #[.pointer (some ⟨tb, 0, none⟩)]) :
    Calls Tryd.prog 60 #[v, .iface 73 (.pointer (some ⟨tb, 0, none⟩)), .agg #[.pointer (some ⟨6, 73, none⟩), .pointer (some ⟨a, 0, none⟩), .int .u64 150], .iface 101 (.agg #[.pointer (some ⟨6, 43, none⟩)])] w (AsPostAt tb en ws w) := by
  have h6 := @run_callFunc_extern Tryd.prog 57 _ (fun args => ReflectliteValue.unpack (args.getD 0 (.tuple #[]))) Tryd.func57 (by kernel_rfl) (by kernel_rfl) (by kernel_rfl) (by kernel_rfl)
  have h10 := @run_callFunc_extern Tryd.prog 61 _ ReflectliteType.typeOf Tryd.func61 (by kernel_rfl) (by kernel_rfl) (by kernel_rfl) (by kernel_rfl)
  have h35 := @run_callFunc_extern Tryd.prog 110 _ (ReflectliteType.relation "AssignableTo" ReflectliteType.assignableTo) Tryd.func110 (by kernel_rfl) (by kernel_rfl) (by kernel_rfl) (by kernel_rfl)
  have h11 := @run_callFunc_extern Tryd.prog 67 _ (ReflectliteValue.method (ReflectliteValue.valueError "reflectlite.Value.Elem" 0) ReflectliteValue.elem) Tryd.func67 (by kernel_rfl) (by kernel_rfl) (by kernel_rfl) (by kernel_rfl)
  have h12 := @run_callFunc_extern Tryd.prog 68 _ ReflectliteValue.set Tryd.func68 (by kernel_rfl) (by kernel_rfl) (by kernel_rfl) (by kernel_rfl)
  have mA := rMethodAssignableTo
  have hlt : tb < w.heap.size := ht.lt
  have hchain := Lib.hid hc
  have HT := Lib.hid ht
  have HA := Lib.hid ha
  clear hc ht ha
  go_enter Tryd.func60, Tryd.ntmps60
  go_wp2_with fail
  generalize hw0 : w.alloc (.cells #[.pointer (some ⟨6, 73, none⟩), .pointer (some ⟨a, 0, none⟩), .int .u64 150] 87) = w0
  have hb0 : Below w.heap.size w w0 := by rw [← hw0]; exact (Below.refl _ _).alloc (Nat.le_refl _) _
  have hq0 : Blk w0 w.heap.size 87 #[.pointer (some ⟨6, 73, none⟩), .pointer (some ⟨a, 0, none⟩), .int .u64 150] := by rw [← hw0]; exact Blk.new _ _ _
  obtain ⟨q, hqq⟩ : ∃ q, w.heap.size = q := ⟨_, rfl⟩
  rw [hqq] at hq0
  try rw [hqq]
  clear hw0
  have HQ0 := Lib.hid hq0
  have HB0 := Lib.hid hb0
  have HLT := Lib.hid hlt
  clear hq0 hb0 hlt
  go_loopg [0] ws.length (fun n ev wr => ∃ us : List Wr, us.length = n ∧ Chain wr en us ev ∧ Hid (us.find? (·.at_) = ws.find? (·.at_)) ∧ Blk wr q 87 #[.pointer (some ⟨6, 73, none⟩), .pointer (some ⟨a, 0, none⟩), .int .u64 150] ∧ Blk wr tb 43 #[old] ∧ Blk wr a 73 #[.pointer (some ⟨tb, 0, none⟩)] ∧ Below w.heap.size w wr)
  case atStart => exact ⟨ws, rfl, chain_later HB0.out hchain.out, Lib.hid rfl, HQ0.out, HT.out.later HB0.out, HA.out.later HB0.out, HB0.out⟩
  case round =>
    obtain ⟨us, rfl, hch, HF, hq, htb, hab, hb⟩ := hrel
    clear HQ0 HB0 hchain HT HA
    rcases us with _ | ⟨⟨at_, l, c, n⟩, us⟩
    · obtain rfl := hch
      have q1 := rAssignErrnoAt
      have q2 := rNoAsErrno
      have q3 := rNoUnErrno
      have q4 := rNoUsErrno
      have q5 := rTypeOfErrno
      go_wp2_with fail
      go_ret
      unfold AsPostAt
      exact .inr ⟨by rw [← HF.out]; rfl, rfl, hb.mono (Nat.le_of_lt HLT.out)⟩
    · obtain ⟨p, v', hch, ⟨hat, rfl, hkb⟩ | ⟨hat, rfl, hkb⟩⟩ := hch
      · obtain rfl : at_ = true := hat
        have q1 := rAssignAtAt
        have q5 := rTypeOfAt
        have q6 := rValueOfAt
        have el := rElemVAt ⟨a, 0, none⟩ ⟨tb, 0, none⟩ wr (blk_cell hab)
        have st := rSetAt ⟨tb, 0, none⟩ ⟨wr.heap.size, 0, none⟩ (⟨p, 0, none⟩) old (wr.alloc (.cells #[.pointer (some ⟨p, 0, none⟩)] 43)) (blk_cell (Blk.new _ _ _)) (blk_cell (htb.alloc _)) ((htb.alloc _).frozen 0)
        have hne : p ≠ tb := fun e => by
          subst e
          have := Option.some.inj (hkb.symm.trans htb)
          cases this
        have HK := Lib.hid hkb
        clear hkb
        have hset : Below tb wr ((wr.alloc (.cells #[.pointer (some ⟨p, 0, none⟩)] 43)).setCell ⟨tb, 0, none⟩ (.pointer (some ⟨p, 0, none⟩))) := ((Below.refl _ _).alloc (Nat.le_of_lt htb.lt) _).setCell (p := ⟨tb, 0, none⟩) (Nat.le_refl _) _
        have dq := hq.at3
        have hr := Below.refl wr.heap.size wr
        have HS := Lib.hid hset
        clear hset hch
        go_wp2_with fail
        go_ret
        have hset := HS.out
        have hkb := HK.out
        unfold AsPostAt
        exact .inl ⟨_, p, _, by rw [← HF.out]; rfl, rfl, by simpa using (Blk.alloc htb _).set_ 0 (.pointer (some ⟨p, 0, none⟩)), (Blk.alloc hkb _).far (p := ⟨tb, 0, none⟩) hne _, (hb.mono (Nat.le_of_lt HLT.out)).trans hset⟩
      · obtain rfl : at_ = false := hat
        have q1 := rAssignInAt
        have q2 := rNoAsIn
        have q3 := rUnIn
        have q4 := rMethodUnwrapIn
        have q5 := rTypeOfIn
        have HK := Lib.hid hkb
        obtain ⟨ti, ui, rfl⟩ := chain_iface hch
        have HCH := Lib.hid hch
        clear hkb hch
        go_wp2_with fail
        have hkb := HK.out
        refine (uIn _ _ _ _ hkb).mono ?_; rintro e w1 ⟨rfl, rfl⟩
        clear hkb
        go_wp2_with fail
        go_roundg us.length
        case measure => simp
        case rel => exact ⟨us, rfl, HCH.out, Lib.hid (by rw [← HF.out]; rfl), hq, htb, hab, hb⟩

def AsPostIn (tb : Nat) (en : Int) (ws : List Wr) (w : World) (e : Ending) (w' : World) : Prop :=
  (∃ W p v', ws.find? (fun W => !W.at_) = some W ∧ e = .returned (.bool true) ∧ Blk w' tb 46 #[.pointer (some ⟨p, 0, none⟩)] ∧ Blk w' p 48 #[.string W.name, v'] ∧ Below tb w w') ∨ (ws.find? (fun W => !W.at_) = none ∧ e = .returned (.bool false) ∧ Below tb w w')
set_option maxHeartbeats 4000000 in
set_option maxRecDepth 100000 in
theorem eAsIn (tb a : Nat) (old : Value) (en : Int) (ws : List Wr) (v : Value) (w : World) (hc : Chain w en ws v) (ht : Blk w tb 46 #[old]) (ha : Blk w a 74 #[.pointer (some ⟨tb, 0, none⟩)]) :
    Calls Tryd.prog 60 #[v, .iface 74 (.pointer (some ⟨tb, 0, none⟩)), .agg #[.pointer (some ⟨6, 74, none⟩), .pointer (some ⟨a, 0, none⟩), .int .u64 150], .iface 101 (.agg #[.pointer (some ⟨6, 46, none⟩)])] w (AsPostIn tb en ws w) := by
  have h6 := @run_callFunc_extern Tryd.prog 57 _ (fun args => ReflectliteValue.unpack (args.getD 0 (.tuple #[]))) Tryd.func57 (by kernel_rfl) (by kernel_rfl) (by kernel_rfl) (by kernel_rfl)
  have h10 := @run_callFunc_extern Tryd.prog 61 _ ReflectliteType.typeOf Tryd.func61 (by kernel_rfl) (by kernel_rfl) (by kernel_rfl) (by kernel_rfl)
  have h35 := @run_callFunc_extern Tryd.prog 110 _ (ReflectliteType.relation "AssignableTo" ReflectliteType.assignableTo) Tryd.func110 (by kernel_rfl) (by kernel_rfl) (by kernel_rfl) (by kernel_rfl)
  have h11 := @run_callFunc_extern Tryd.prog 67 _ (ReflectliteValue.method (ReflectliteValue.valueError "reflectlite.Value.Elem" 0) ReflectliteValue.elem) Tryd.func67 (by kernel_rfl) (by kernel_rfl) (by kernel_rfl) (by kernel_rfl)
  have h12 := @run_callFunc_extern Tryd.prog 68 _ ReflectliteValue.set Tryd.func68 (by kernel_rfl) (by kernel_rfl) (by kernel_rfl) (by kernel_rfl)
  have mA := rMethodAssignableTo
  have hlt : tb < w.heap.size := ht.lt
  have hchain := Lib.hid hc
  have HT := Lib.hid ht
  have HA := Lib.hid ha
  clear hc ht ha
  go_enter Tryd.func60, Tryd.ntmps60
  go_wp2_with fail
  generalize hw0 : w.alloc (.cells #[.pointer (some ⟨6, 74, none⟩), .pointer (some ⟨a, 0, none⟩), .int .u64 150] 87) = w0
  have hb0 : Below w.heap.size w w0 := by rw [← hw0]; exact (Below.refl _ _).alloc (Nat.le_refl _) _
  have hq0 : Blk w0 w.heap.size 87 #[.pointer (some ⟨6, 74, none⟩), .pointer (some ⟨a, 0, none⟩), .int .u64 150] := by rw [← hw0]; exact Blk.new _ _ _
  obtain ⟨q, hqq⟩ : ∃ q, w.heap.size = q := ⟨_, rfl⟩
  rw [hqq] at hq0
  try rw [hqq]
  clear hw0
  have HQ0 := Lib.hid hq0
  have HB0 := Lib.hid hb0
  have HLT := Lib.hid hlt
  clear hq0 hb0 hlt
  go_loopg [0] ws.length (fun n ev wr => ∃ us : List Wr, us.length = n ∧ Chain wr en us ev ∧ Hid (us.find? (fun W => !W.at_) = ws.find? (fun W => !W.at_)) ∧ Blk wr q 87 #[.pointer (some ⟨6, 74, none⟩), .pointer (some ⟨a, 0, none⟩), .int .u64 150] ∧ Blk wr tb 46 #[old] ∧ Blk wr a 74 #[.pointer (some ⟨tb, 0, none⟩)] ∧ Below w.heap.size w wr)
  case atStart => exact ⟨ws, rfl, chain_later HB0.out hchain.out, Lib.hid rfl, HQ0.out, HT.out.later HB0.out, HA.out.later HB0.out, HB0.out⟩
  case round =>
    obtain ⟨us, rfl, hch, HF, hq, htb, hab, hb⟩ := hrel
    clear HQ0 HB0 hchain HT HA
    rcases us with _ | ⟨⟨at_, l, c, n⟩, us⟩
    · obtain rfl := hch
      have q1 := rAssignErrnoIn
      have q2 := rNoAsErrno
      have q3 := rNoUnErrno
      have q4 := rNoUsErrno
      have q5 := rTypeOfErrno
      go_wp2_with fail
      go_ret
      unfold AsPostIn
      exact .inr ⟨by rw [← HF.out]; rfl, rfl, hb.mono (Nat.le_of_lt HLT.out)⟩
    · obtain ⟨p, v', hch, ⟨hat, rfl, hkb⟩ | ⟨hat, rfl, hkb⟩⟩ := hch
      · obtain rfl : at_ = true := hat
        have q1 := rAssignAtIn
        have q2 := rNoAsAt
        have q3 := rUnAt
        have q4 := rMethodUnwrapAt
        have q5 := rTypeOfAt
        have HK := Lib.hid hkb
        obtain ⟨ti, ui, rfl⟩ := chain_iface hch
        have HCH := Lib.hid hch
        clear hkb hch
        go_wp2_with fail
        have hkb := HK.out
        refine (uAt _ _ _ _ _ hkb).mono ?_; rintro e w1 ⟨rfl, rfl⟩
        clear hkb
        go_wp2_with fail
        go_roundg us.length
        case measure => simp
        case rel => exact ⟨us, rfl, HCH.out, Lib.hid (by rw [← HF.out]; rfl), hq, htb, hab, hb⟩
      · obtain rfl : at_ = false := hat
        have q1 := rAssignInIn
        have q5 := rTypeOfIn
        have q6 := rValueOfIn
        have el := rElemVIn ⟨a, 0, none⟩ ⟨tb, 0, none⟩ wr (blk_cell hab)
        have st := rSetIn ⟨tb, 0, none⟩ ⟨wr.heap.size, 0, none⟩ (⟨p, 0, none⟩) old (wr.alloc (.cells #[.pointer (some ⟨p, 0, none⟩)] 46)) (blk_cell (Blk.new _ _ _)) (blk_cell (htb.alloc _)) ((htb.alloc _).frozen 0)
        have hne : p ≠ tb := fun e => by
          subst e
          have := Option.some.inj (hkb.symm.trans htb)
          cases this
        have HK := Lib.hid hkb
        clear hkb
        have hset : Below tb wr ((wr.alloc (.cells #[.pointer (some ⟨p, 0, none⟩)] 46)).setCell ⟨tb, 0, none⟩ (.pointer (some ⟨p, 0, none⟩))) := ((Below.refl _ _).alloc (Nat.le_of_lt htb.lt) _).setCell (p := ⟨tb, 0, none⟩) (Nat.le_refl _) _
        have dq := hq.at3
        have hr := Below.refl wr.heap.size wr
        have HS := Lib.hid hset
        clear hset hch
        go_wp2_with fail
        go_ret
        have hset := HS.out
        have hkb := HK.out
        unfold AsPostIn
        exact .inl ⟨_, p, _, by rw [← HF.out]; rfl, rfl, by simpa using (Blk.alloc htb _).set_ 0 (.pointer (some ⟨p, 0, none⟩)), (Blk.alloc hkb _).far (p := ⟨tb, 0, none⟩) hne _, (hb.mono (Nat.le_of_lt HLT.out)).trans hset⟩

end Go.Proofs.YtkbfhnhdlcbidaaDoor
