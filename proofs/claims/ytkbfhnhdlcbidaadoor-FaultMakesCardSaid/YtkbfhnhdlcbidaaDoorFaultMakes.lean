/-
  The walk of FaultMakes: true for all arguments.
  Conditions: the tables of the numbers' texts and the handle of the type error laid.
-/
import Derived.Test.YtkbfhnhdlcbidaaDoorFaultTexts
import Derived.Test.YtkbfhnhdlcbidaaDoorFaultPlaces
import Derived.Test.YtkbfhnhdlcbidaaDoorErrIs
namespace Go.Proofs.YtkbfhnhdlcbidaaDoor
open Go.RowKit Go.Sort

theorem fText_nil (w : World) : Calls Tryd.prog 44 #[.nilIface] w fun e w' => e = .returned (.string ⟨#[]⟩) ∧ w = w' := by
  go_enter Tryd.func44, Tryd.ntmps44
  go_wp2_with fail
  go_ret
  exact ⟨rfl, rfl⟩
theorem fAtError (p : Nat) (w : World) {Q : Ending → World → Prop} (hQ : ∀ e w', Q e w' → ∃ u, e = .returned u) (h : Calls Tryd.prog 44 #[.iface 43 (.pointer (some ⟨p, 0, none⟩))] w Q) : Calls Tryd.prog 21 #[.pointer (some ⟨p, 0, none⟩)] w Q := by
  go_enter Tryd.func21, Tryd.ntmps21
  go_wp2_with fail
  refine h.mono ?_; rintro e w3 hq
  obtain ⟨u, rfl⟩ := hQ _ _ hq
  go_wp2_with fail
  exact hq
theorem fInError (p : Nat) (w : World) {Q : Ending → World → Prop} (hQ : ∀ e w', Q e w' → ∃ u, e = .returned u) (h : Calls Tryd.prog 44 #[.iface 46 (.pointer (some ⟨p, 0, none⟩))] w Q) : Calls Tryd.prog 22 #[.pointer (some ⟨p, 0, none⟩)] w Q := by
  go_enter Tryd.func22, Tryd.ntmps22
  go_wp2_with fail
  refine h.mono ?_; rintro e w3 hq
  obtain ⟨u, rfl⟩ := hQ _ _ hq
  go_wp2_with fail
  exact hq
theorem win_one {w : World} {g : Nat} {a : Bool} {l c : Int} {n : ByteArray} (h : Blk w g 39 #[.bool a, .int .i64 l, .int .i64 c, .string n]) : WIn w (some ⟨g, 0, none⟩) [⟨a, l, c, n⟩] := fun i hi => by
  obtain rfl : i = 0 := by simpa using hi
  refine ⟨g, 0, rfl, fun w' hb => ?_⟩
  obtain ⟨c0, c1, c2, c3, -⟩ := h.at4 w' hb
  exact ⟨c0, c1, c2, c3⟩

theorem bel_alloc {W w' : World} (h : Below W.heap.size W w') (o : Obj) : Below W.heap.size W (w'.alloc o) := h.alloc h.size _
theorem bel_call {W w' : World} {v : Value} {f : FuncId} {args : Array Value} (h : Below W.heap.size W w') (hc : Calls Tryd.prog f args w' fun e w'' => e = .returned v ∧ Below w'.heap.size w' w'') :
    Calls Tryd.prog f args w' fun e w'' => e = .returned v ∧ Below W.heap.size W w'' ∧ Below w'.heap.size w' w'' := hc.mono fun _ _ ⟨a, b⟩ => ⟨a, h.up b, b⟩
set_option maxHeartbeats 4000000 in
set_option maxRecDepth 100000 in
theorem faultMakes (l c en : Int) (name : ByteArray) (w : World) (h1 : i64 l) (h2 : i64 c) (he : i64 en) (hp : Pow w) (hh : HandleE w) :
    Calls Tryd.prog 5 #[.agg #[.int .i64 l, .int .i64 c], .int .i64 en, .string name] w fun e w' => e = .returned (.bool true) ∧ Below w.heap.size w w' := by
  have HP := Lib.hid hp
  have HH := Lib.hid hh
  obtain ⟨w0, hw0⟩ : ∃ w0, w.alloc (.cells #[.int .i64 l, .int .i64 c] 33) = w0 := ⟨_, rfl⟩
  have hk : Blk w0 w.heap.size 33 #[.int .i64 l, .int .i64 c] := by rw [← hw0]; exact Blk.new _ _ _
  have hz : Below w.heap.size w w0 := by rw [← hw0]; exact (Below.refl _ _).alloc (Nat.le_refl _) _
  have hU := cutT_size name 8
  have d0 := hk.at2
  have hr := Below.refl w0.heap.size w0
  have HW0 := Lib.hid hw0
  clear hw0 hp hh
  by_cases h0 : en = 0
  · subst h0
    clear he h1 h2
    go_enter Tryd.func5, Tryd.ntmps5
    go_upto_region 1 with fail
    rw [HW0.out]
    go_wp2_with fail
    refine (xCut name 8 _).mono ?_; rintro e w1 ⟨rfl, rfl⟩
    go_wp2_with fail
    refine (fNew_nil _ _ _).mono ?_; rintro e w1 ⟨rfl, hb1⟩
    have HP1 := Lib.hid (pow_later HP.out (hz.up hb1))
    go_wp2_with fail
    refine (fWithin_nil _ _).mono ?_; rintro e w2 ⟨rfl, rfl⟩
    go_wp2_with fail
    refine (fTextC _ _ (fun _ _ h => ⟨_, h.1⟩) (fText_nil _)).mono ?_; rintro e w2 ⟨rfl, rfl⟩
    go_wp2_with fail
    refine (fLives _ HP1.out).mono ?_; rintro e w2 ⟨rfl, hb2⟩
    go_wp2_with fail
    go_ret
    exact ⟨rfl, (hz.up hb1).up hb2⟩
  · have e0 := ne_b h0
    have HOK1 : Hid (∀ W ∈ [(⟨true, l, c, ⟨#[]⟩⟩ : Wr)], WrOk W) := Lib.hid (by intro W hW; simp at hW; subst hW; exact ⟨h1, h2, Nat.zero_le _⟩)
    have HOK2 : Hid (∀ W ∈ [(⟨false, 0, 0, cutT name 8⟩ : Wr)], WrOk W) := Lib.hid (by intro W hW; simp at hW; subst hW; exact ⟨by unfold i64; simp, by unfold i64; simp, hU⟩)
    have HE := Lib.hid he
    clear he h1 h2
    go_enter Tryd.func5, Tryd.ntmps5
    go_upto_region 1 with fail
    rw [HW0.out]
    go_wp2_with fail
    refine (xCut name 8 _).mono ?_; rintro e w1 ⟨rfl, rfl⟩
    generalize cutT name 8 = nm at *
    go_wp2_with fail
    refine (fNew l c en _ h0).mono ?_; rintro e w1 ⟨p, rfl, hkp, hb1⟩
    have hb2 := hz.up hb1
    have hk1 := hk.later hb1
    have HC : Hid (Chain w1 en [⟨true, l, c, ⟨#[]⟩⟩] (.iface 43 (.pointer (some ⟨p, 0, none⟩)))) := Lib.hid ⟨_, _, rfl, .inl ⟨rfl, rfl, hkp⟩⟩
    have HH1 := Lib.hid (handle_later HH.out hb2)
    clear hk d0 hr hb1 hkp hz
    go_wp2_with fail
    have f1 := fWhereD en _ _ _ HC.out HH1.out
    change Calls _ _ _ _ fun e w' => e = .returned (.tuple #[.agg #[.int .i64 l, .int .i64 c], .bool true]) ∧ Below w1.heap.size w1 w' at f1
    refine f1.mono ?_; rintro e w2 ⟨rfl, hb3⟩
    clear f1
    go_upto_region 6 with fail
    obtain ⟨q8, hq8⟩ : ∃ q, w2.heap.size = q := ⟨_, rfl⟩
    generalize hw3 : w2.alloc (.cells #[.int .i64 l, .int .i64 c] 33) = w3
    have k8 : Blk w3 q8 33 #[.int .i64 l, .int .i64 c] := by rw [← hw3, ← hq8]; exact Blk.new _ _ _
    have hb4 : Below w1.heap.size w1 w3 := by rw [← hw3]; exact hb3.alloc hb3.size _
    rw [hq8]
    clear hw3 hq8 hb3
    have HC3 := Lib.hid (chain_later hb4 HC.out)
    have HH3 := Lib.hid (handle_later HH1.out hb4)
    have hk3 := hk1.later hb4
    have hb5 := hb2.up hb4
    clear HC HH1 hk1 hb2 hb4
    go_wp2_with fail
    have f2 := fWhoD en _ _ _ HC3.out HH3.out
    change Calls _ _ _ _ fun e w' => e = .returned (.tuple #[.string ⟨#[]⟩, .bool false]) ∧ Below w3.heap.size w3 w' at f2
    refine f2.mono ?_; rintro e w4 ⟨rfl, hb6⟩
    clear f2
    have k84 := k8.later hb6
    have hk4 := hk3.later hb6
    have HC4 := Lib.hid (chain_later hb6 HC3.out)
    have HH4 := Lib.hid (handle_later HH3.out hb6)
    have hb7 := hb5.up hb6
    have d4 := hk4.at2
    have hr4 := Below.refl w4.heap.size w4
    clear k8 hk3 HC3 HH3 hb5 hb6
    go_upto_region 8 with fail
    obtain ⟨a, ha⟩ : ∃ a, w4.heap.size = a := ⟨_, rfl⟩
    obtain ⟨i, hi⟩ : ∃ i, a + 1 = i := ⟨_, rfl⟩
    obtain ⟨q0, hq0⟩ : ∃ q, w.heap.size = q := ⟨_, rfl⟩
    generalize hw5 : (w4.alloc (.cells #[.int .i64 l, .int .i64 c, .iface 23 (.int .i64 en)] 45)).alloc (.cells #[.string nm, .iface 23 (.int .i64 en)] 48) = w5
    have hb8 : Below w4.heap.size w4 w5 := by rw [← hw5]; exact ((Below.refl _ _).alloc (Nat.le_refl _) _).alloc (by simp) _
    have ka : Blk w5 a 45 #[.int .i64 l, .int .i64 c, .iface 23 (.int .i64 en)] := by rw [← hw5, ← ha]; exact (Blk.new _ _ _).alloc _
    have ki : Blk w5 i 48 #[.string nm, .iface 23 (.int .i64 en)] := by
      rw [← hw5, ← hi, ← ha]
      simpa using Blk.new (w4.alloc (.cells #[.int .i64 l, .int .i64 c, .iface 23 (.int .i64 en)] 45)) 48 #[.string nm, .iface 23 (.int .i64 en)]
    have k0 := hk4.later hb8
    have k8 := k84.later hb8
    have HC5 := Lib.hid (chain_later hb8 HC4.out)
    have HH5 := Lib.hid (handle_later HH4.out hb8)
    have hb9 := hb7.up hb8
    have HP5 := Lib.hid (pow_later HP.out hb9)
    rw [ha, hi]
    rw [hq0] at k0
    try rw [hq0]
    clear hw5 ha hi hb8 hk4 k84 HC4 HH4 hb7 d4 hr4
    have MK : Hid (∀ w', Below w5.heap.size w5 w' → Below w5.heap.size w5 w' ∧ w'.cell? ⟨q0, 0, none⟩ = some (.int .i64 l) ∧ w'.cell? ⟨q0, 1, none⟩ = some (.int .i64 c)) := Lib.hid fun w' h => ⟨h, (k0.at2 w' h).1, (k0.at2 w' h).2.1⟩
    have hl1 := textW_len HE.out _ HOK1.out
    have hl2 := textW_len HE.out _ HOK2.out
    have C1 : ∀ w', Below w5.heap.size w5 w' → Chain w' en [⟨true, l, c, ⟨#[]⟩⟩] (.iface 43 (.pointer (some ⟨a, 0, none⟩))) := fun w' h => ⟨_, _, rfl, .inl ⟨rfl, rfl, ka.later h⟩⟩
    have C2 : ∀ w', Below w5.heap.size w5 w' → Chain w' en [⟨false, 0, 0, nm⟩] (.iface 46 (.pointer (some ⟨i, 0, none⟩))) := fun w' h => ⟨_, _, rfl, .inr ⟨rfl, rfl, ki.later h⟩⟩
    have G1 := Lib.hid fun w' (h : Below w5.heap.size w5 w') => bel_call h (fAtError a w' (fun _ _ h => ⟨_, h.1⟩) (fText HE.out _ _ w' (C1 w' h) HOK1.out (by simp) (pow_later HP5.out h)))
    have G2 := Lib.hid fun w' (h : Below w5.heap.size w5 w') => bel_call h (fInError i w' (fun _ _ h => ⟨_, h.1⟩) (fText HE.out _ _ w' (C2 w' h) HOK2.out (by simp) (pow_later HP5.out h)))
    have G3 := Lib.hid fun (w' : World) (g : Nat) (h : Below w5.heap.size w5 w') (hb : Blk w' g 39 #[.bool true, .int .i64 l, .int .i64 c, .string ⟨#[]⟩]) => (show Calls Tryd.prog 15 #[.slice (some ⟨g, 0, none⟩) 1 1, .int .i64 en] w' fun e w'' => e = .returned (.string (bt (textW [⟨true, l, c, ⟨#[]⟩⟩] en))) ∧ Below w5.heap.size w5 w'' ∧ Below w'.heap.size w' w'' from bel_call h (fTextR (some ⟨g, 0, none⟩) 1 [⟨true, l, c, ⟨#[]⟩⟩] en w' (win_one hb) (by simp) HOK1.out HE.out))
    have G4 := Lib.hid fun (w' : World) (g : Nat) (h : Below w5.heap.size w5 w') (hb : Blk w' g 39 #[.bool false, .int .i64 0, .int .i64 0, .string nm]) => (show Calls Tryd.prog 15 #[.slice (some ⟨g, 0, none⟩) 1 1, .int .i64 en] w' fun e w'' => e = .returned (.string (bt (textW [⟨false, 0, 0, nm⟩] en))) ∧ Below w5.heap.size w5 w'' ∧ Below w'.heap.size w' w'' from bel_call h (fTextR (some ⟨g, 0, none⟩) 1 [⟨false, 0, 0, nm⟩] en w' (win_one hb) (by simp) HOK2.out HE.out))
    have G5 := Lib.hid fun w' (h : Below w5.heap.size w5 w') => uAt a l c (.iface 23 (.int .i64 en)) w' (ka.later h)
    have G6 := Lib.hid fun w' (h : Below w5.heap.size w5 w') => uIn i nm (.iface 23 (.int .i64 en)) w' (ki.later h)
    have G7 := Lib.hid fun w' (h : Below w5.heap.size w5 w') => bel_call h (fCode en [] (.iface 23 (.int .i64 en)) w' rfl (handle_later HH5.out h))
    clear C1 C2
    have HOK3 : Hid (∀ W ∈ [(⟨false, 0, 0, nm⟩ : Wr), ⟨true, l, c, ⟨#[]⟩⟩], WrOk W) := Lib.hid (by
      intro W hW
      simp only [List.mem_cons, List.not_mem_nil, or_false] at hW
      rcases hW with rfl | rfl
      · exact HOK2.out _ (by simp)
      · exact HOK1.out _ (by simp))
    obtain ⟨t1, ht1⟩ : ∃ t1, textW [(⟨true, l, c, ⟨#[]⟩⟩ : Wr)] en = t1 := ⟨_, rfl⟩
    have ht3 : textW [(⟨false, 0, 0, nm⟩ : Wr), ⟨true, l, c, ⟨#[]⟩⟩] en = prefW ⟨false, 0, 0, nm⟩ ++ t1 := by rw [← ht1]; rfl
    rw [ht1] at hl1 G1 G3
    have HT := Lib.hid (And.intro ht1 ht3)
    clear ht1 ht3
    generalize textW [(⟨false, 0, 0, nm⟩ : Wr)] en = t2 at *
    have K0 := Lib.hid k0
    have K8 := Lib.hid k8
    have HB9 := Lib.hid hb9
    have HL := Lib.hid (And.intro hl1 hl2)
    clear ka ki k0 k8 hb9 hl1 hl2
    go_cut [88] (fun v wx => v = .bool false ∧ Below w5.heap.size w5 wx)
    case first =>
      go_region_held3 (fun w' => Below w5.heap.size w5 w' ∧ w'.cell? ⟨q0, 0, none⟩ = some (.int .i64 l) ∧ w'.cell? ⟨q0, 1, none⟩ = some (.int .i64 c)) (exact MK.out _ (by (repeat' (first | exact Below.refl _ _ | assumption | exact And.left (by assumption) | apply bel_alloc | apply Below.drew)))) (first | (go_at_call 21; refine (G1.out _ (by (repeat' (first | exact Below.refl _ _ | assumption | exact And.left (by assumption) | apply bel_alloc | apply Below.drew)))).mono ?_; rintro e wn ⟨rfl, hbn, hbm⟩) | (go_at_call 22; refine (G2.out _ (by (repeat' (first | exact Below.refl _ _ | assumption | exact And.left (by assumption) | apply bel_alloc | apply Below.drew)))).mono ?_; rintro e wn ⟨rfl, hbn, hbm⟩) | (go_at_call 15; refine (G3.out _ _ ?hB ?hK).mono ?_; (case hB => (repeat' (first | exact Below.refl _ _ | assumption | exact And.left (by assumption) | apply bel_alloc | apply Below.drew))); (case hK => first | exact Blk.new _ _ _ | exact (Blk.new _ _ _).drew | exact Blk.later (Blk.new _ _ _) (by assumption) | exact Blk.later (Blk.new _ _ _).drew (by assumption) | exact (Blk.new _ _ _).alloc _ | exact Blk.later (Blk.alloc (Blk.new _ _ _) _) (by assumption) | exact Blk.later (Blk.alloc (Blk.new _ _ _) _).drew (by assumption) | exact Blk.later (Blk.alloc (Blk.new _ _ _).drew _) (by assumption)); rintro e wn ⟨rfl, hbn, hbm⟩) | (go_at_call 15; refine (G4.out _ _ ?hB ?hK).mono ?_; (case hB => (repeat' (first | exact Below.refl _ _ | assumption | exact And.left (by assumption) | apply bel_alloc | apply Below.drew))); (case hK => first | exact Blk.new _ _ _ | exact (Blk.new _ _ _).drew | exact Blk.later (Blk.new _ _ _) (by assumption) | exact Blk.later (Blk.new _ _ _).drew (by assumption) | exact (Blk.new _ _ _).alloc _ | exact Blk.later (Blk.alloc (Blk.new _ _ _) _) (by assumption) | exact Blk.later (Blk.alloc (Blk.new _ _ _) _).drew (by assumption) | exact Blk.later (Blk.alloc (Blk.new _ _ _).drew _) (by assumption)); rintro e wn ⟨rfl, hbn, hbm⟩) | (go_at_call 24; refine (G5.out _ (by (repeat' (first | exact Below.refl _ _ | assumption | exact And.left (by assumption) | apply bel_alloc | apply Below.drew)))).mono ?_; rintro e wn ⟨rfl, rfl⟩) | (go_at_call 25; refine (G6.out _ (by (repeat' (first | exact Below.refl _ _ | assumption | exact And.left (by assumption) | apply bel_alloc | apply Below.drew)))).mono ?_; rintro e wn ⟨rfl, rfl⟩) | (go_at_call 23; refine (G7.out _ (by (repeat' (first | exact Below.refl _ _ | assumption | exact And.left (by assumption) | apply bel_alloc | apply Below.drew)))).mono ?_; rintro e wn ⟨rfl, hbn, hbm⟩))
      all_goals go_wp2_with fail
      all_goals go_meet
      all_goals exact ⟨rfl, by (repeat' (first | exact Below.refl _ _ | assumption | exact And.left (by assumption) | apply bel_alloc | apply Below.drew))⟩
    case rest =>
      obtain ⟨rfl, hbx⟩ := hcut
      have HCx := Lib.hid (chain_later hbx HC5.out)
      have HHx := Lib.hid (handle_later HH5.out hbx)
      have HPx := Lib.hid (pow_later HP5.out hbx)
      have k0 := K0.out.later hbx
      have k8 := K8.out.later hbx
      have d0 := k0.at2
      have d8 := k8.at2
      have hr := Below.refl wc.heap.size wc
      have HBX := Lib.hid (HB9.out.up hbx)
      have hl := HL.out.1
      have hl3 : t1.length ≤ 200 := by simp only [List.length_cons, List.length_nil] at hl; omega
      have hc3 := text_in 0 0 t1 nm
      clear hl hbx k0 k8 HC5 HH5 HP5 MK G1 G2 G3 G4 G5 G6 G7 K0 K8 HB9 HL
      go_wp2_with fail
      refine (fCode en _ _ _ HCx.out HHx.out).mono ?_; rintro e w6 ⟨rfl, hb6⟩
      have HB6 := Lib.hid (HBX.out.up hb6)
      have HC6 := Lib.hid (chain_later hb6 HCx.out)
      have HP6 := Lib.hid (pow_later HPx.out hb6)
      clear d0 d8 hr hb6
      go_wp2_with fail
      refine (fWithin nm _ _ _).mono ?_; rintro e w7 ⟨rfl, kw, hb7⟩
      have HB7 := Lib.hid (HB6.out.up hb7)
      have HC7 := Lib.hid (chain_later hb7 HC6.out)
      have HP7 := Lib.hid (pow_later HP6.out hb7)
      have HC8 : Hid (Chain w7 en [⟨false, 0, 0, nm⟩, ⟨true, l, c, ⟨#[]⟩⟩] (.iface 46 (.pointer (some ⟨w6.heap.size, 0, none⟩)))) := Lib.hid ⟨_, _, HC7.out, .inr ⟨rfl, rfl, kw⟩⟩
      clear kw hb7
      go_wp2_with fail
      have f1 := fTextC _ w7 (fun _ _ h => ⟨_, h.1⟩) (fText HE.out _ _ _ HC8.out HOK3.out (by simp) HP7.out)
      rw [HT.out.2] at f1
      refine f1.mono ?_; rintro e w8 ⟨rfl, hb8⟩
      have HB8 := Lib.hid (HB7.out.up hb8)
      have HC9 := Lib.hid (chain_later hb8 HC7.out)
      have HP8 := Lib.hid (pow_later HP7.out hb8)
      clear f1 hb8
      go_wp2_with fail
      have f2 := fTextC _ w8 (fun _ _ h => ⟨_, h.1⟩) (fText HE.out _ _ _ HC9.out HOK1.out (by simp) HP8.out)
      rw [HT.out.1] at f2
      refine f2.mono ?_; rintro e w9 ⟨rfl, hb9⟩
      have HB9 := Lib.hid (HB8.out.up hb9)
      have HP9 := Lib.hid (pow_later HP8.out hb9)
      clear f2 hb9
      go_wp2_with fail
      refine (fLives _ HP9.out).mono ?_; rintro e w10 ⟨rfl, hb10⟩
      go_wp2_with fail
      go_ret
      exact ⟨rfl, HB9.out.up hb10⟩
end Go.Proofs.YtkbfhnhdlcbidaaDoor
