/-
  reparteetop.lives: what its four rounds come to, as a plain law.
  Conditions: none.
-/
import Derived.Test.YtbhgmccaecmpjaaGreatW46
namespace Go.Proofs.YtbhgmccaecmpjaaGreat
set_option linter.unusedVariables false
set_option linter.unusedSimpArgs false
open Go.RowKit

def hiB : ByteArray := ⟨#[104, 105]⟩
def okB : ByteArray := ⟨#[111, 107]⟩
def askB : ByteArray := ⟨#[97, 115, 107]⟩
def cL : ScT := ⟨2, 4, 16, 2, 6, 1, askB, 40, 2, .send hiB, .expect 9 (some (okB, 2))⟩
theorem cL_ok : cL.ok := ⟨by decide, by decide, by decide, by decide, by decide, by decide, by decide⟩
theorem okB_plain : PlainS okB := ⟨fun i h => by
  have h : i < 2 := h
  match i, h with
  | 0, _ => exact (by unfold plainC; decide : plainC 111)
  | 1, _ => exact (by unfold plainC; decide : plainC 107), by decide⟩
theorem cL_fit : cL.fit := ⟨.inl ⟨hiB, rfl, by decide, by decide⟩, 9, _, rfl, .inr ⟨by decide, by decide⟩, fun p k e => by
  injection e with e
  injection e with e1 e2
  subst e1 e2
  exact ⟨okB_plain, by decide, rfl, by decide⟩⟩
theorem cL_pr : PrFit cL.nm cL.dl cL.jm cL.o0 cL.o1 := ⟨⟨by decide, fun i h => by
    have h : i < 3 := h
    match i, h with
    | 0, _ => exact (by decide : 97 ≤ 97 ∧ 97 ≤ 122)
    | 1, _ => exact (by decide : 97 ≤ 115 ∧ 115 ≤ 122)
    | 2, _ => exact (by decide : 97 ≤ 107 ∧ 107 ≤ 122)⟩, .inr ⟨by decide, by decide⟩, by decide, ⟨by decide, by decide⟩, .inr ⟨by decide, by decide⟩, fun p k e => by
  injection e with e
  injection e with e1 e2
  subst e1 e2
  exact ⟨okB_plain, by decide, rfl⟩⟩
def t0L : DT := ⟨0, 0, nev, 41, nev, [], [], none, hiB, 0, 0, 0, 1, true⟩
def EaL : ET := opnE cL (begE E0 1) true
def S1L : ET := stepE { tuB cL EaL with p := (tuB cL EaL).p - priceT cL t0L } t0L (dstepT cL { t0L with now := 1 })
def t1L : DT := ⟨0, 0, nev, 41, nev, [], [], none, hiB, 0, 2, 0, 1, true⟩
/-- Whatever holds of every state of a chain. -/
theorem okd_L {clock : Int} {t : DT} (h : DT.fit cL { t with now := clock }) (hc : overN t.li t.cu clock = 0) (hd : t.at_ = 1 → dueB t.un clock = false) (hn : t.now ≤ clock) (hx : 0 ≤ nextT t) : OkD cL clock t := ⟨h, ⟨hc, hd⟩, hn, .inr hx⟩
def I1L (E : ET) : Prop := E = tuB cL EaL ∨ E = S1L
theorem okd_t0 : OkD cL 1 t0L := okd_L ⟨by decide, fun _ => ⟨rfl, rfl, rfl⟩, fun e => (by cases e), by decide⟩ (by kernel_rfl) (fun e => by cases e) (by decide) (by decide)
theorem okd_t1 : OkD cL 1 t1L := okd_L ⟨by decide, fun _ => ⟨rfl, rfl, rfl⟩, fun e => (by cases e), by decide⟩ (by kernel_rfl) (fun e => by cases e) (by decide) (by decide)
theorem I1L_ok : TurnI cL I1L := by
  refine ⟨fun E t h hd => ?_, fun E t h hd hr hp => ?_⟩
  · rcases h with rfl | rfl
    · obtain rfl : t0L = t := Option.some.inj ((show (tuB cL EaL).d = some t0L by kernel_rfl).symm.trans hd)
      refine ⟨okd_t0, by decide, by decide, rfl, rfl, fun st hst => ?_⟩
      rw [show (dstepT cL { t0L with now := (tuB cL EaL).clock }).out = .run t1L by kernel_rfl] at hst
      cases hst
    · obtain rfl : t1L = t := Option.some.inj ((show S1L.d = some t1L by kernel_rfl).symm.trans hd)
      refine ⟨okd_t1, by decide, by decide, (by kernel_rfl), (by kernel_rfl), fun st hst => ?_⟩
      rw [show (dstepT cL { t1L with now := S1L.clock }).out = .run (comeT cL { t1L with now := 1 } 1) by kernel_rfl] at hst
      cases hst
  · rcases h with rfl | rfl
    · obtain rfl : t0L = t := Option.some.inj ((show (tuB cL EaL).d = some t0L by kernel_rfl).symm.trans hd)
      exact .inr rfl
    · obtain rfl : t1L = t := Option.some.inj ((show S1L.d = some t1L by kernel_rfl).symm.trans hd)
      rw [show readyT cL t1L S1L.clock = false by kernel_rfl] at hr
      cases hr
def X1L : ET := turnD cL S1L t1L
theorem turn1L {E' : ET} (h : TurnTo cL (tuB cL EaL) E') : E' = X1L := by
  have hN : turnN cL 1 (tuB cL EaL) = S1L := by kernel_rfl
  have hd : S1L.d = some t1L := by kernel_rfl
  rcases TurnTo_det hN (.inr ⟨t1L, hd, fun hh => by rw [show readyT cL t1L S1L.clock = false by kernel_rfl] at hh; cases hh.1⟩) h with ⟨h1, _⟩ | ⟨t, h1, rfl⟩
  · rw [hd] at h1; cases h1
  · obtain rfl := Option.some.inj (hd.symm.trans h1)
    rfl
/-- The second round, ahead of its turn. -/
def EbL (tr : Int) : ET := reportW cL (offE (begE X1L 1) (some okB)) t1L 2 tr
def t2L (tr : Int) : DT := ⟨0, 0, nev, 41, nev, [111, 107], [], none, hiB, 2, 2, tr, 1, true⟩
def pat0 : Pat := patOf (some (okB, 2))
def t3L (tr : Int) : DT := ⟨1, 0, 11, 41, nev, [111, 107], [], some pat0, hiB, 2, 2, tr, 2, true⟩
def pat1 : Pat := (lookT 16 [] pat0 [111, 107] 0).p
def t4L (tr : Int) : DT := ⟨2, 1, nev, 41, nev, [], [], some pat1, hiB, 2, 2, tr, 2, false⟩
def S2a (tr : Int) : ET := stepE { tuB cL (EbL tr) with p := (tuB cL (EbL tr)).p - priceT cL (t2L tr) } (t2L tr) (dstepT cL { t2L tr with now := 2 })
def S2b (tr : Int) : ET := stepE { S2a tr with p := (S2a tr).p - priceT cL (t3L tr) } (t3L tr) (dstepT cL { t3L tr with now := 2 })
def S2c (tr : Int) : ET := stepE { S2b tr with p := (S2b tr).p - priceT cL (t4L tr) } (t4L tr) (dstepT cL { t4L tr with now := 2 })
section
variable (tr : Int)
theorem EbL_d : (EbL tr).d = some (t2L tr) := by kernel_rfl
theorem S2a_d : (S2a tr).d = some (t3L tr) := by kernel_rfl
theorem S2b_d : (S2b tr).d = some (t4L tr) := by kernel_rfl
theorem S2c_d : (S2c tr).d = none := by kernel_rfl
theorem EbL_x : (EbL tr).waits = true ∧ (EbL tr).turn = false ∧ (EbL tr).clock = 2 ∧ (EbL tr).tm = some 41 ∧ (EbL tr).k = 1 ∧ (EbL tr).rounds = 2 := ⟨by kernel_rfl, by kernel_rfl, by kernel_rfl, by kernel_rfl, by kernel_rfl, by kernel_rfl⟩
theorem S2c_x : (S2c tr).waits = false ∧ (S2c tr).turn = false ∧ (S2c tr).clock = 2 ∧ (S2c tr).tm = none ∧ (S2c tr).rounds = 2 ∧ (S2c tr).out.length = 6 := ⟨by kernel_rfl, by kernel_rfl, by kernel_rfl, by kernel_rfl, by kernel_rfl, by kernel_rfl⟩
theorem r2 : readyT cL (t2L tr) 2 = true ∧ priceT cL (t2L tr) = 1 := ⟨by kernel_rfl, by kernel_rfl⟩
theorem r3 : readyT cL (t3L tr) 2 = true ∧ priceT cL (t3L tr) = 3 := ⟨by kernel_rfl, by kernel_rfl⟩
theorem r4 : readyT cL (t4L tr) 2 = true ∧ priceT cL (t4L tr) = 1 := ⟨by kernel_rfl, by kernel_rfl⟩
theorem S2_p : (tuB cL (EbL tr)).p = 6 ∧ (S2a tr).p = 5 ∧ (S2b tr).p = 2 ∧ (S2a tr).clock = 2 ∧ (S2b tr).clock = 2 ∧ (tuB cL (EbL tr)).clock = 2 := ⟨by kernel_rfl, by kernel_rfl, by kernel_rfl, by kernel_rfl, by kernel_rfl, by kernel_rfl⟩
end
def I2L (E : ET) : Prop := ∃ tr, E = tuB cL (EbL tr) ∨ E = S2a tr ∨ E = S2b tr ∨ E = S2c tr
theorem okd_t2 (tr : Int) : OkD cL 2 (t2L tr) := okd_L ⟨(by show 0 ≤ 2; decide), fun _ => ⟨rfl, rfl, rfl⟩, fun e => (by cases e), (by show (0 : Int) ≤ 2 ∧ (2 : Int) ≤ 9223372036854775807; decide)⟩ (by kernel_rfl) (fun e => by cases e) (by show (1 : Int) ≤ 2; decide) (by rw [show nextT (t2L tr) = 41 by kernel_rfl]; decide)
theorem okd_t3 (tr : Int) : OkD cL 2 (t3L tr) := okd_L ⟨(by show 1 ≤ 2; decide), fun e => (by cases e), fun _ => ⟨rfl, ⟨_, rfl, fun ⟨n, e⟩ => (by cases e)⟩, rfl⟩, (by show (0 : Int) ≤ 2 ∧ (2 : Int) ≤ 9223372036854775807; decide)⟩ (by kernel_rfl) (fun _ => by kernel_rfl) (by show (2 : Int) ≤ 2; decide) (by rw [show nextT (t3L tr) = 11 by kernel_rfl]; decide)
theorem okd_t4 (tr : Int) : OkD cL 2 (t4L tr) := okd_L ⟨(by show 2 ≤ 2; decide), fun e => (by cases e), fun e => (by cases e), (by show (0 : Int) ≤ 2 ∧ (2 : Int) ≤ 9223372036854775807; decide)⟩ (by kernel_rfl) (fun e => by cases e) (by show (2 : Int) ≤ 2; decide) (by rw [show nextT (t4L tr) = 41 by kernel_rfl]; decide)
theorem I2L_ok : TurnI cL I2L := by
  refine ⟨fun E t h hd => ?_, fun E t h hd hr hp => ?_⟩
  · obtain ⟨tr, rfl | rfl | rfl | rfl⟩ := h
    · obtain rfl : t2L tr = t := Option.some.inj ((EbL_d tr).symm.trans hd)
      refine ⟨okd_t2 tr, ?_, by rw [(r2 tr).2]; decide, rfl, rfl, fun st hst => ?_⟩
      · rw [show (tuB cL (EbL tr)).out.length = 3 by kernel_rfl]; decide
      · rw [show (dstepT cL { t2L tr with now := (tuB cL (EbL tr)).clock }).out = .run (t3L tr) by kernel_rfl] at hst
        cases hst
    · obtain rfl : t3L tr = t := Option.some.inj ((S2a_d tr).symm.trans hd)
      refine ⟨okd_t3 tr, ?_, by rw [(r3 tr).2]; decide, (by kernel_rfl), (by kernel_rfl), fun st hst => ?_⟩
      · rw [show (S2a tr).out.length = 4 by kernel_rfl]; decide
      · rw [show (dstepT cL { t3L tr with now := (S2a tr).clock }).out = .run (t4L tr) by kernel_rfl] at hst
        cases hst
    · obtain rfl : t4L tr = t := Option.some.inj ((S2b_d tr).symm.trans hd)
      refine ⟨okd_t4 tr, ?_, by rw [(r4 tr).2]; decide, (by kernel_rfl), (by kernel_rfl), fun st hst => ?_⟩
      · rw [show (S2b tr).out.length = 5 by kernel_rfl]; decide
      · rw [show (dstepT cL { t4L tr with now := (S2b tr).clock }).out = .fin 1 by kernel_rfl] at hst
        injection hst with hst
        subst hst
        exact ⟨by decide, rfl⟩
    · rw [S2c_d] at hd; cases hd
  · obtain ⟨tr, rfl | rfl | rfl | rfl⟩ := h
    · obtain rfl : t2L tr = t := Option.some.inj ((EbL_d tr).symm.trans hd)
      exact ⟨tr, .inr (.inl rfl)⟩
    · obtain rfl : t3L tr = t := Option.some.inj ((S2a_d tr).symm.trans hd)
      exact ⟨tr, .inr (.inr (.inl rfl))⟩
    · obtain rfl : t4L tr = t := Option.some.inj ((S2b_d tr).symm.trans hd)
      exact ⟨tr, .inr (.inr (.inr rfl))⟩
    · rw [S2c_d] at hd; cases hd
theorem turn2L (tr : Int) {E' : ET} (h : TurnTo cL (tuB cL (EbL tr)) E') : E' = S2c tr := by
  have p := S2_p tr
  have h1 : turnN cL 3 (tuB cL (EbL tr)) = turnN cL 2 (S2a tr) := turnN_one (E := tuB cL (EbL tr)) (EbL_d tr) ⟨(r2 tr).1, by rw [(r2 tr).2, p.1]; decide⟩ 2
  have h2 : turnN cL 2 (S2a tr) = turnN cL 1 (S2b tr) := turnN_one (E := S2a tr) (S2a_d tr) ⟨(r3 tr).1, by rw [(r3 tr).2, p.2.1]; decide⟩ 1
  have h3 : turnN cL 1 (S2b tr) = turnN cL 0 (S2c tr) := turnN_one (E := S2b tr) (S2b_d tr) ⟨(r4 tr).1, by rw [(r4 tr).2, p.2.2.1]; decide⟩ 0
  have hN : turnN cL 3 (tuB cL (EbL tr)) = S2c tr := h1.trans (h2.trans h3)
  rcases TurnTo_det hN (.inl (S2c_d tr)) h with ⟨_, h4⟩ | ⟨t, h4, _⟩
  · exact h4
  · rw [S2c_d] at h4; cases h4
def J1L (m : Nat) (E : ET) : Prop := (m = 1 ∧ E = EaL) ∨ (m = 0 ∧ E = X1L)
theorem J1L_ok : JOk cL J1L := by
  intro m E h
  rcases h with ⟨hm, rfl⟩ | ⟨hm, _⟩
  · refine ⟨by kernel_rfl, fun _ => ⟨⟨t0L, by kernel_rfl⟩, by rw [show EaL.k = 0 by kernel_rfl]; decide, ⟨I1L, I1L_ok, .inl rfl⟩, fun E1 h1 => .inr ⟨by omega, turn1L h1⟩⟩⟩
  · omega
def J2L (m : Nat) (E : ET) : Prop := ∃ tr, (m = 1 ∧ E = EbL tr) ∨ (m = 0 ∧ E = S2c tr)
theorem J2L_ok : JOk cL J2L := by
  intro m E h
  obtain ⟨tr, ⟨hm, rfl⟩ | ⟨hm, _⟩⟩ := h
  · refine ⟨(EbL_x tr).2.1, fun _ => ⟨⟨_, EbL_d tr⟩, by rw [(EbL_x tr).2.2.2.2.1]; decide, ⟨I2L, I2L_ok, tr, .inl rfl⟩, fun E1 h1 => ⟨tr, .inr ⟨by omega, turn2L tr h1⟩⟩⟩⟩
  · omega
def J0L (m : Nat) (E : ET) : Prop := E.waits = false ∧ E.turn = false
theorem J0L_ok : JOk cL J0L := fun m E h => ⟨h.2, fun hw => by rw [h.1] at hw; cases hw⟩
def LA : RdT := ⟨1, true, none, none⟩
def LB : RdT := ⟨1, false, some okB, some (true, 2)⟩
def LC : RdT := ⟨1, false, none, none⟩
theorem lA_ok : RndOk cL LA E0 J1L := by
  refine ⟨⟨by decide, by decide, by decide⟩, by decide, fun _ => ⟨rfl, cL_pr, rfl, .inr ⟨_, rfl⟩, ?_⟩, fun u e => (by cases e), fun b k e => (by cases e), fun E4 h4 => ?_⟩
  · exact ⟨by decide, by decide, by kernel_rfl, .inr (by decide)⟩
  · obtain rfl : E4 = EaL := h4
    have hw : wakeE cL EaL = EaL := by kernel_rfl
    exact ⟨fun u hu => ⟨t0L, by kernel_rfl, by decide, by decide, by kernel_rfl, .inr (by decide)⟩, by rw [hw]; exact .inl ⟨rfl, rfl⟩⟩
theorem lA_to {E' : ET} (h : RoundTo cL LA E0 E') : E' = X1L := by
  obtain ⟨E4, h4, hT⟩ := h
  obtain rfl : E4 = EaL := h4
  have hw : wakeE cL EaL = EaL := by kernel_rfl
  rw [hw] at hT
  rcases hT with ⟨_, E1, h1, h2⟩ | ⟨h1, _⟩
  · obtain rfl : E' = E1 := h2
    exact turn1L h1
  · rw [show EaL.waits = true by kernel_rfl] at h1; cases h1
theorem lB_ok : RndOk cL LB X1L J2L := by
  have hd : (offE (opnE cL (begE X1L LB.tk) LB.op) LB.of).d = some t1L := by kernel_rfl
  refine ⟨⟨by decide, by decide, by decide⟩, by decide, fun e => (by cases e), fun u e => ?_, fun b k e => .inr ⟨t1L, hd, ⟨by decide, by decide, by kernel_rfl, .inr (by decide)⟩, by decide, by decide, by decide, fun _ => by decide⟩, fun E4 h4 => ?_⟩
  · obtain rfl : okB = u := Option.some.inj e
    exact ⟨by kernel_rfl, by decide, by decide, by decide, by decide⟩
  · obtain ⟨t, tr, h1, rfl⟩ := h4
    obtain rfl : t1L = t := Option.some.inj (hd.symm.trans h1)
    have hw : wakeE cL (EbL tr) = EbL tr := by kernel_rfl
    refine ⟨fun u hu => ⟨t2L tr, EbL_d tr, (by show 0 ≤ 2; decide), (by show (1 : Int) ≤ 2; decide), by kernel_rfl, .inr (by rw [show nextT (t2L tr) = 41 by kernel_rfl]; decide)⟩, ?_⟩
    show J2L 1 (wakeE cL (EbL tr))
    rw [hw]; exact ⟨tr, .inl ⟨rfl, rfl⟩⟩
theorem lB_to {E' : ET} (h : RoundTo cL LB X1L E') : ∃ tr, E' = S2c tr := by
  obtain ⟨E4, h4, hT⟩ := h
  obtain ⟨t, tr, h1, rfl⟩ := h4
  have hd : (offE (opnE cL (begE X1L LB.tk) LB.op) LB.of).d = some t1L := by kernel_rfl
  obtain rfl : t1L = t := Option.some.inj (hd.symm.trans h1)
  have hw : wakeE cL (EbL tr) = EbL tr := by kernel_rfl
  have hT : TurnsTo cL 1 (wakeE cL (EbL tr)) E' := hT
  rw [hw] at hT
  rcases hT with ⟨_, E1, h1, h2⟩ | ⟨h1, _⟩
  · obtain rfl : E' = E1 := h2
    exact ⟨tr, turn2L tr h1⟩
  · rw [(EbL_x tr).1] at h1; cases h1
/-- Who has ended stays so. -/
structure Still (E : ET) (k : Int) : Prop where
  w : E.waits = false ∧ E.turn = false
  tm : E.tm = none
  c : 0 ≤ E.clock ∧ E.clock ≤ k
  r : 0 ≤ E.rounds ∧ E.rounds ≤ k
theorem lC_ok {E : ET} {k : Int} (h : Still E k) (hk : k ≤ 100) : RndOk cL LC E J0L := by
  have h1 := h.c
  have h2 := h.r
  refine ⟨⟨by decide, h1.1, by show E.clock + 1 ≤ 1000000000000; omega⟩, ⟨h2.1, by omega⟩, fun e => (by cases e), fun u e => (by cases e), fun b k e => (by cases e), fun E4 h4 => ?_⟩
  obtain rfl : E4 = begE E 1 := h4
  rw [wake_none (show (begE E 1).tm = none from h.tm)]
  exact ⟨fun u hu => (by rw [show (begE E 1).tm = none from h.tm] at hu; cases hu), h.w⟩
theorem lC_to {E E' : ET} {k : Int} (h : Still E k) (hT : RoundTo cL LC E E') : E' = begE E 1 := by
  obtain ⟨E4, h4, hT⟩ := hT
  obtain rfl : E4 = begE E 1 := h4
  rw [wake_none (show (begE E 1).tm = none from h.tm)] at hT
  rcases hT with ⟨h1, _⟩ | ⟨_, h1⟩
  · rw [show (begE E 1).waits = false from h.w.1] at h1; cases h1
  · exact h1
theorem Still.beg {E : ET} {k : Int} (h : Still E k) : Still (begE E 1) (k + 1) := by
  have h1 := h.c
  have h2 := h.r
  exact ⟨h.w, h.tm, ⟨by show 0 ≤ E.clock + 1; omega, by show E.clock + 1 ≤ k + 1; omega⟩, ⟨by show 0 ≤ E.rounds + 1; omega, by show E.rounds + 1 ≤ k + 1; omega⟩⟩
def LR : List RdT := [LA, LB, LC, LC]
theorem S2c_still (tr : Int) : Still (S2c tr) 2 := by
  obtain ⟨h1, h2, h3, h4, h5, _⟩ := S2c_x tr
  exact ⟨⟨h1, h2⟩, h4, by rw [h3]; decide, by rw [h5]; decide⟩
theorem lives_chain : ChainOk cL LR E0 := by
  refine ⟨⟨J1L, J1L_ok, lA_ok⟩, fun E1 h1 => ?_⟩
  obtain rfl := lA_to h1
  refine ⟨by decide, ⟨J2L, J2L_ok, lB_ok⟩, fun E2 h2 => ?_⟩
  obtain ⟨tr, rfl⟩ := lB_to h2
  have hs := S2c_still tr
  refine ⟨by rw [(S2c_x tr).2.2.2.2.2]; decide, ⟨J0L, J0L_ok, lC_ok hs (by decide)⟩, fun E3 h3 => ?_⟩
  obtain rfl := lC_to hs h3
  refine ⟨by show 1 ≤ 1 ∧ 1 ≤ 1000; decide, ⟨J0L, J0L_ok, lC_ok hs.beg (by decide)⟩, fun E4 h4 => ?_⟩
  obtain rfl := lC_to hs.beg h4
  exact ⟨by show 1 ≤ 1 ∧ 1 ≤ 1000; decide, trivial⟩
def opsN' (l : List EvT) : Bool := l.any fun v => v.k == 2
theorem lives_evs {l : List EvT} (h : RoundsTo cL LR E0 l) : l.length = 11 ∧ (∀ v ∈ l, v.i = 0 ∧ v.k ≠ 9 ∧ (Lit.int IntKind.i64 v.s5).wf = true) ∧ opsN' l = true ∧ stF 0 l = 1 := by
  obtain ⟨E1, l1, h1, rfl, h⟩ := h
  obtain rfl := lA_to h1
  obtain ⟨E2, l2, h2, rfl, h⟩ := h
  obtain ⟨tr, rfl⟩ := lB_to h2
  have hs := S2c_still tr
  obtain ⟨E3, l3, h3, rfl, h⟩ := h
  obtain rfl := lC_to hs h3
  obtain ⟨E4, l4, h4, rfl, h⟩ := h
  obtain rfl := lC_to hs.beg h4
  obtain rfl : l4 = [] := h
  have key : ((X1L.out ++ ((S2c tr).out ++ ((begE (S2c tr) 1).out ++ ((begE (begE (S2c tr) 1) 1).out ++ [])))).all fun v => decide (v.i = 0) && !(decide (v.k = 9)) && (Lit.int IntKind.i64 v.s5).wf) = true := by kernel_rfl
  refine ⟨by kernel_rfl, fun v hv => ?_, by kernel_rfl, by kernel_rfl⟩
  have h := List.all_eq_true.1 key v hv
  simp only [Bool.and_eq_true, decide_eq_true_eq, Bool.not_eq_true', decide_eq_false_iff_not] at h
  exact ⟨h.1.1, h.1.2, h.2⟩
end Go.Proofs.YtbhgmccaecmpjaaGreat
