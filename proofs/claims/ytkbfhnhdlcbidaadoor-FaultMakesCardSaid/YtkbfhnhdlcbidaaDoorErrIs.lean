/-
  Contracts of errors.Is at a plain error: whether it lies in a chain.
  Conditions: none.
-/
import Derived.Test.YtkbfhnhdlcbidaaDoorErrTop
import Derived.Laws.ResultCell
namespace Go.Proofs.YtkbfhnhdlcbidaaDoor
open Go.RowKit Go.Sort Go.Extern.Stop Go.Stop Go.Extern

section
variable {P : Program} (w : World)
theorem run_equalIn_iface_int (d : Nat) {ti tn : TypeId} {ms : Array (String × TypeId)} {i : TypeInfo} {k : IntKind} (a b : Int)
    (hi : P.underlying ti = some (.interface ms)) (hn : P.underlying tn = some (.int k)) (hinfo : P.info? tn = some i) (hcomp : i.comparable = true) :
    (Op.equalIn (d + 2) ti (.iface tn (.int k a)) (.iface tn (.int k b))).run P w = .ok (a == b) w := by
  simp [Op.equalIn, run_underlying hi, run_underlying hn, typeInfo, hinfo, hcomp]
theorem run_eql_iface_int {ti tn : TypeId} {ms : Array (String × TypeId)} {i : TypeInfo} {k : IntKind} (a b : Int)
    (hi : P.underlying ti = some (.interface ms)) (hn : P.underlying tn = some (.int k)) (hinfo : P.info? tn = some i) (hcomp : i.comparable = true) :
    (binOp .eql ti (.iface tn (.int k a)) (.iface tn (.int k b))).run P w = .ok (.bool (a == b)) w := by
  simp only [binOp]
  simp [Op.equal, Op.maxDepth, run_equalIn_iface_int w 9998 a b hi hn hinfo hcomp]
end
theorem errnoComp : (Tryd.prog.info? 23).map (·.comparable) = some true := by kernel_rfl
theorem eqErrno (a b : Int) (w : World) : (binOp .eql 28 (.iface 23 (.int .i64 a)) (.iface 23 (.int .i64 b))).run Tryd.prog w = .ok (.bool (a == b)) w := by
  obtain ⟨i, hi, hc⟩ := Option.map_eq_some_iff.1 errnoComp
  exact run_eql_iface_int w a b Tryd.underlying28 Tryd.underlying23 hi hc
theorem eqAt (v : Value) (b : Int) (w : World) : (binOp .eql 28 (.iface 43 v) (.iface 23 (.int .i64 b))).run Tryd.prog w = .ok (.bool false) w := run_eql_iface_types _ _ _ _ Tryd.underlying28 (by decide) w
theorem eqIn (v : Value) (b : Int) (w : World) : (binOp .eql 28 (.iface 46 v) (.iface 23 (.int .i64 b))).run Tryd.prog w = .ok (.bool false) w := run_eql_iface_types _ _ _ _ Tryd.underlying28 (by decide) w
theorem rMethodComparable (h : Value) (w : World) : (Go.method 273 101 (.agg #[h]) "Comparable").run Tryd.prog w = .ok (111, .agg #[h]) w := by kernel_rfl
theorem rComparable (w : World) : (ReflectliteType.method (fun t => do Go.Extern.Rtype.noPackHeld "Comparable" t; (fun a => Value.bool a.comparable) <$> typeInfo t) #[.agg #[.pointer (some ⟨6, 23, none⟩)]]).run Tryd.prog w = .ok (.bool true) w := by kernel_rfl

set_option maxHeartbeats 4000000 in
set_option maxRecDepth 100000 in
theorem eIs (o en : Int) (ws : List Wr) (v : Value) (w : World) (hc : Chain w en ws v) :
    Calls Tryd.prog 62 #[v, .iface 23 (.int .i64 o), .bool true] w fun e w' => e = .returned (.bool (en == o)) ∧ w = w' := by
  have hchain := Lib.hid hc
  clear hc
  have eq1 := eqAt
  have eq2 := eqIn
  go_enter Tryd.func62, Tryd.ntmps62
  go_wp2_with fail
  go_loopg [0] ws.length (fun n ev wr => ∃ us : List Wr, us.length = n ∧ Chain wr en us ev ∧ w = wr)
  case atStart => exact ⟨ws, rfl, hchain.out, rfl⟩
  case round =>
    obtain ⟨us, rfl, hch, rfl⟩ := hrel
    clear hchain
    rcases us with _ | ⟨⟨at_, l, c, n⟩, us⟩
    · obtain rfl := hch
      have q1 := eqErrno en o w
      have q2 := rNoIsErrno
      have q3 := rNoUnErrno
      have q4 := rNoUsErrno
      generalize hbb : (en == o) = bb at *
      have HBB := Lib.hid hbb
      clear hbb
      cases bb with
      | true =>
        go_wp2_with fail
        go_ret
        exact ⟨ret_bool HBB.out.symm, rfl⟩
      | false =>
        go_wp2_with fail
        go_ret
        exact ⟨ret_bool HBB.out.symm, rfl⟩
    · obtain ⟨p, v', hch, ⟨hat, rfl, hkb⟩ | ⟨hat, rfl, hkb⟩⟩ := hch
      · obtain rfl : at_ = true := hat
        have q2 := rNoIsAt
        have q3 := rUnAt
        have q4 := rMethodUnwrapAt
        have HK := Lib.hid hkb
        obtain ⟨ti, ui, rfl⟩ := chain_iface hch
        have HCH := Lib.hid hch
        clear hkb hch
        go_wp2_with fail
        refine (uAt _ _ _ _ _ HK.out).mono ?_; rintro e w1 ⟨rfl, rfl⟩
        go_wp2_with fail
        go_roundg us.length
        case measure => simp
        case rel => exact ⟨us, rfl, HCH.out, rfl⟩
      · obtain rfl : at_ = false := hat
        have q2 := rNoIsIn
        have q3 := rUnIn
        have q4 := rMethodUnwrapIn
        have HK := Lib.hid hkb
        obtain ⟨ti, ui, rfl⟩ := chain_iface hch
        have HCH := Lib.hid hch
        clear hkb hch
        go_wp2_with fail
        refine (uIn _ _ _ _ HK.out).mono ?_; rintro e w1 ⟨rfl, rfl⟩
        go_wp2_with fail
        go_roundg us.length
        case measure => simp
        case rel => exact ⟨us, rfl, HCH.out, rfl⟩
set_option maxHeartbeats 4000000 in
set_option maxRecDepth 100000 in
theorem eIsTop (o en : Int) (ws : List Wr) (v : Value) (w : World) (hc : Chain w en ws v) :
    Calls Tryd.prog 47 #[v, .iface 23 (.int .i64 o)] w fun e w' => e = .returned (.bool (en == o)) ∧ w = w' := by
  have h10 := @run_callFunc_extern Tryd.prog 61 _ ReflectliteType.typeOf Tryd.func61 (by kernel_rfl) (by kernel_rfl) (by kernel_rfl) (by kernel_rfl)
  have h38 := @run_callFunc_extern Tryd.prog 111 _ (ReflectliteType.method (fun t => do Go.Extern.Rtype.noPackHeld "Comparable" t; pure (.bool (← typeInfo t).comparable))) Tryd.func111 (by kernel_rfl) (by kernel_rfl) (by kernel_rfl) (by kernel_rfl)
  have mC := rMethodComparable
  have rC := rComparable
  have q5 := rTypeOfErrno
  have G := Lib.hid (eIs o en ws v w hc)
  obtain ⟨ti, ui, rfl⟩ := chain_iface hc
  clear hc
  go_enter Tryd.func47, Tryd.ntmps47
  go_wp2_with fail
  refine G.out.mono ?_; rintro e w1 ⟨rfl, rfl⟩
  go_wp2_with fail
  go_ret
  exact ⟨rfl, rfl⟩
set_option maxRecDepth 100000 in
theorem eIs_nil (t : Value) (u : Value) (w : World) : Calls Tryd.prog 47 #[.nilIface, .iface 23 u] w fun e w' => e = .returned (.bool false) ∧ w = w' := by
  have e0 := fun w => run_eql_iface_nil_left (P := Tryd.prog) w (ti := 28) 23 u Tryd.underlying28
  go_enter Tryd.func47, Tryd.ntmps47
  go_wp2_with fail
  go_ret
  exact ⟨rfl, rfl⟩

/-! Package fault's answers. -/
theorem fIs (o en : Int) (ws : List Wr) (v : Value) (w : World) (hc : Chain w en ws v) (hen : en ≠ 0) :
    Calls Tryd.prog 26 #[v, .int .i64 o] w fun e w' => e = .returned (.bool (en == o)) ∧ w = w' := by
  have G := Lib.hid (fun o => eIsTop o en ws v w hc)
  clear hc
  by_cases h0 : o = 0
  · subst h0
    have e0 := ne_b hen
    go_enter Tryd.func26, Tryd.ntmps26
    go_wp2_with fail
    go_ret
    exact ⟨by rw [e0]; rfl, rfl⟩
  · have e0 := ne_b h0
    go_enter Tryd.func26, Tryd.ntmps26
    go_wp2_with fail
    refine (G.out o).mono ?_; rintro e w1 ⟨rfl, rfl⟩
    go_wp2_with fail
    go_ret
    exact ⟨ret_bool (a := (o != 0 && en == o)) (by simp [h0]), rfl⟩
theorem fIs_nil (o : Int) (w : World) : Calls Tryd.prog 26 #[.nilIface, .int .i64 o] w fun e w' => e = .returned (.bool false) ∧ w = w' := by
  by_cases h0 : o = 0
  · subst h0
    go_enter Tryd.func26, Tryd.ntmps26
    go_wp2_with fail
    go_ret
    exact ⟨rfl, rfl⟩
  · have e0 := ne_b h0
    go_enter Tryd.func26, Tryd.ntmps26
    go_wp2_with fail
    refine (eIs_nil (.nilIface) _ _).mono ?_; rintro e w1 ⟨rfl, rfl⟩
    go_wp2_with fail
    go_ret
    exact ⟨rfl, rfl⟩
theorem fCode_nil (w : World) : Calls Tryd.prog 23 #[.nilIface] w fun e w' => e = .returned (.int .i64 0) ∧ Below w.heap.size w w' := by
  go_enter Tryd.func23, Tryd.ntmps23
  go_wp2_with fail
  go_ret
  exact ⟨rfl, (Below.refl _ _).alloc (Nat.le_refl _) _⟩
theorem fCode (en : Int) (ws : List Wr) (v : Value) (w : World) (hc : Chain w en ws v) (hg : HandleE w) :
    Calls Tryd.prog 23 #[v] w fun e w' => e = .returned (.int .i64 en) ∧ Below w.heap.size w w' := by
  obtain ⟨W1, hW1⟩ : ∃ W1, W1 = w.alloc (.cells #[.int .i64 0] 23) := ⟨_, rfl⟩
  have hb1 : Below w.heap.size w W1 := by rw [hW1]; exact (Below.refl _ _).alloc (Nat.le_refl _) _
  have ka : Blk W1 w.heap.size 23 #[.int .i64 0] := by rw [hW1]; exact Blk.new _ _ _
  have G := Lib.hid (eAsTopErrno w.heap.size (.int .i64 0) en ws v W1 (chain_later hb1 hc) ka (handle_later hg hb1))
  obtain ⟨ti, ui, rfl⟩ := chain_iface hc
  have HW1 := Lib.hid hW1
  clear hW1 hc hg ka
  go_enter Tryd.func23, Tryd.ntmps23
  go_upto_region 2 with fail
  rw [← HW1.out]
  go_wp2_with fail
  refine G.out.mono ?_
  intro e w2 h2
  obtain ⟨rfl, hk, hb⟩ := h2
  have d := hk.at1
  have hr := Below.refl w2.heap.size w2
  go_wp2_with fail
  go_ret
  exact ⟨rfl, hb1.trans hb⟩
set_option maxHeartbeats 1000000 in
theorem fWhere (en : Int) (ws : List Wr) (v : Value) (w : World) (hc : Chain w en ws v) (hg : HandleE w) :
    Calls Tryd.prog 16 #[v] w fun e w' => e = .returned (.tuple #[.agg #[.int .i64 ((ws.find? (·.at_)).map (·.line) |>.getD 0), .int .i64 ((ws.find? (·.at_)).map (·.col) |>.getD 0)], .bool (ws.find? (·.at_)).isSome]) ∧ Below w.heap.size w w' := by
  obtain ⟨W0, hW0⟩ : ∃ W0, W0 = w.alloc (.cells #[.int .i64 0, .int .i64 0] 33) := ⟨_, rfl⟩
  obtain ⟨W1, hW1⟩ : ∃ W1, W1 = W0.alloc (.cells #[.pointer none] 43) := ⟨_, rfl⟩
  have hb0 : Below w.heap.size w W0 := by rw [hW0]; exact (Below.refl _ _).alloc (Nat.le_refl _) _
  have hb1' : Below W0.heap.size W0 W1 := by rw [hW1]; exact (Below.refl _ _).alloc (Nat.le_refl _) _
  have hb1 := hb0.up hb1'
  have hs : W0.heap.size = w.heap.size + 1 := by rw [hW0]; simp
  have k0 : Blk W0 w.heap.size 33 #[.int .i64 0, .int .i64 0] := by rw [hW0]; exact Blk.new _ _ _
  have k1 := k0.later hb1'
  have ka : Blk W1 (w.heap.size + 1) 43 #[.pointer none] := by rw [← hs, hW1]; exact Blk.new _ _ _
  have G := Lib.hid (eAsTopAt (w.heap.size + 1) (.pointer none) en ws v W1 (chain_later hb1 hc) ka (handle_later hg hb1))
  obtain ⟨ti, ui, rfl⟩ := chain_iface hc
  have HW0 := Lib.hid hW0
  have HW1 := Lib.hid hW1
  clear hW0 hW1 hc hg ka hs hb0 hb1' k0
  go_enter Tryd.func16, Tryd.ntmps16
  go_upto_region 2 with fail
  rw [← HW0.out, ← HW1.out]
  go_wp2_with fail
  refine G.out.mono ?_
  intro e w2 h2
  rcases h2 with ⟨W, p, v', hf, rfl, hk, hp, hb⟩ | ⟨hf, rfl, hb⟩
  · have HF := Lib.hid hf
    have k2 : Blk w2 w.heap.size 33 #[.int .i64 0, .int .i64 0] := k1.below hb (by omega)
    have d := hk.at1
    have d2 := hp.at3
    have d3 := k2.at2
    have hr := Below.refl w2.heap.size w2
    clear hf
    go_wp2_with fail
    generalize hw4 : (w2.setCell ⟨w.heap.size, 0, none⟩ (.int .i64 W.line)).setCell ⟨w.heap.size, 1, none⟩ (.int .i64 W.col) = w4
    have k4 : Blk w4 w.heap.size 33 #[.int .i64 W.line, .int .i64 W.col] := by
      rw [← hw4]
      have := (k2.set_ 0 (.int .i64 W.line)).set_ 1 (.int .i64 W.col)
      simpa using this
    have hb4 : Below w.heap.size w w4 := by
      rw [← hw4]
      exact ((hb1.trans (hb.mono (Nat.le_succ _))).setCell (p := ⟨w.heap.size, 0, none⟩) (Nat.le_refl _) _).setCell (p := ⟨w.heap.size, 1, none⟩) (Nat.le_refl _) _
    have d4 := k4.at2
    have hr4 := Below.refl w4.heap.size w4
    clear hw4 d d2 d3 hr k2 k4
    (try simp only [Exit.inBlock, Exit.then])
    refine bodyPost_ret (v := .tuple #[.agg #[.int .i64 W.line, .int .i64 W.col], .bool true]) ?_ rfl ⟨by rw [HF.out]; rfl, hb4⟩
    rw [results_cell_tmp rfl]
    go_simp
  · have HF := Lib.hid hf
    have k2 : Blk w2 w.heap.size 33 #[.int .i64 0, .int .i64 0] := k1.below hb (by omega)
    have d3 := k2.at2
    have hr := Below.refl w2.heap.size w2
    clear hf
    go_wp2_with fail
    generalize hw4 : (w2.setCell ⟨w.heap.size, 0, none⟩ (.int .i64 0)).setCell ⟨w.heap.size, 1, none⟩ (.int .i64 0) = w4
    have k4 : Blk w4 w.heap.size 33 #[.int .i64 0, .int .i64 0] := by
      rw [← hw4]
      have := (k2.set_ 0 (.int .i64 0)).set_ 1 (.int .i64 0)
      simpa using this
    have hb4 : Below w.heap.size w w4 := by
      rw [← hw4]
      exact ((hb1.trans (hb.mono (Nat.le_succ _))).setCell (p := ⟨w.heap.size, 0, none⟩) (Nat.le_refl _) _).setCell (p := ⟨w.heap.size, 1, none⟩) (Nat.le_refl _) _
    have d4 := k4.at2
    have hr4 := Below.refl w4.heap.size w4
    clear hw4  d3 hr k2 k4
    (try simp only [Exit.inBlock, Exit.then])
    refine bodyPost_ret (v := .tuple #[.agg #[.int .i64 0, .int .i64 0], .bool false]) ?_ rfl ⟨by rw [HF.out]; rfl, hb4⟩
    rw [results_cell_tmp rfl]
    go_simp
theorem fWho (en : Int) (ws : List Wr) (v : Value) (w : World) (hc : Chain w en ws v) (hg : HandleE w) :
    Calls Tryd.prog 17 #[v] w fun e w' => e = .returned (.tuple #[.string ((ws.find? (fun W => !W.at_)).map (·.name) |>.getD ⟨#[]⟩), .bool (ws.find? (fun W => !W.at_)).isSome]) ∧ Below w.heap.size w w' := by
  obtain ⟨W1, hW1⟩ : ∃ W1, W1 = w.alloc (.cells #[.pointer none] 46) := ⟨_, rfl⟩
  have hb1 : Below w.heap.size w W1 := by rw [hW1]; exact (Below.refl _ _).alloc (Nat.le_refl _) _
  have ka : Blk W1 w.heap.size 46 #[.pointer none] := by rw [hW1]; exact Blk.new _ _ _
  have G := Lib.hid (eAsTopIn w.heap.size (.pointer none) en ws v W1 (chain_later hb1 hc) ka (handle_later hg hb1))
  obtain ⟨ti, ui, rfl⟩ := chain_iface hc
  have HW1 := Lib.hid hW1
  clear hW1 hc hg ka
  go_enter Tryd.func17, Tryd.ntmps17
  go_upto_region 2 with fail
  rw [← HW1.out]
  go_wp2_with fail
  refine G.out.mono ?_
  intro e w2 h2
  rcases h2 with ⟨W, p, v', hf, rfl, hk, hp, hb⟩ | ⟨hf, rfl, hb⟩
  · have HF := Lib.hid hf
    have d := hk.at1
    have d2 := hp.at2
    have hr := Below.refl w2.heap.size w2
    clear hf
    go_wp2_with fail
    go_ret2
    exact ⟨by rw [HF.out]; rfl, hb1.trans hb⟩
  · have HF := Lib.hid hf
    clear hf
    go_wp2_with fail
    go_ret2
    exact ⟨by rw [HF.out]; rfl, hb1.trans hb⟩
end Go.Proofs.YtkbfhnhdlcbidaaDoor
