/-
  TopNothingLost's plain law: turns and rounds that read.
  Conditions: none.
-/
import Derived.Test.YtbhgmccaecmpjaaGreatW40
namespace Go.Proofs.YtbhgmccaecmpjaaGreat
set_option linter.unusedVariables false
set_option linter.unusedSimpArgs false
open Go.RowKit

/-- A turn stops here. -/
def StopT (c : ScT) (E : ET) : Prop := E.d = none ∨ ∃ t, E.d = some t ∧ ¬ (readyT c t E.clock = true ∧ priceT c t ≤ E.p)
theorem turnN_stop {c : ScT} {E : ET} (h : StopT c E) : ∀ m, turnN c m E = E
  | 0 => rfl
  | m + 1 => by
    rw [turnN]
    rcases h with h | ⟨t, h, hn⟩
    · rw [h]
    · rw [h]; simp only; rw [if_neg hn]
theorem turnN_add {c : ScT} : ∀ (N m : Nat) (E : ET), turnN c (m + N) E = turnN c m (turnN c N E)
  | 0, m, E => rfl
  | N + 1, m, E => by
    rw [← Nat.add_assoc, turnN, turnN]
    cases hd : E.d with
    | none => exact (turnN_stop (.inl hd) m).symm
    | some t =>
      simp only
      by_cases h : readyT c t E.clock = true ∧ priceT c t ≤ E.p
      · rw [if_pos h, if_pos h]; exact turnN_add N m _
      · rw [if_neg h, if_neg h]; exact (turnN_stop (.inr ⟨t, hd, h⟩) m).symm
/-- What a turn comes to, its steps being known. -/
theorem TurnTo_det {c : ScT} {E S E' : ET} {N : Nat} (hN : turnN c N E = S) (hS : StopT c S) (h : TurnTo c E E') : (S.d = none ∧ E' = S) ∨ ∃ t, S.d = some t ∧ E' = turnD c S t := by
  obtain ⟨n, E2, h1, h2⟩ := h
  have s2 : StopT c E2 := by
    rcases h2 with ⟨h, _⟩ | ⟨t, h, hn, _⟩
    · exact .inl h
    · exact .inr ⟨t, h, hn⟩
  have e : S = E2 := by
    have a1 : turnN c (N + n) E = E2 := (h1 N).trans (turnN_stop s2 N)
    have a2 : turnN c (n + N) E = S := by rw [turnN_add, hN]; exact turnN_stop hS n
    rw [Nat.add_comm] at a2
    exact a2.symm.trans a1
  subst e
  rcases h2 with ⟨h, h3⟩ | ⟨t, h, _, h3⟩
  · exact .inl ⟨h, h3⟩
  · exact .inr ⟨t, h, h3⟩
theorem turnN_one {c : ScT} {E : ET} {t : DT} (hd : E.d = some t) (h : readyT c t E.clock = true ∧ priceT c t ≤ E.p) (m : Nat) : turnN c (m + 1) E = turnN c m (stepE { E with p := E.p - priceT c t } t (dstepT c { t with now := E.clock })) := by
  rw [turnN, hd]; simp only; rw [if_pos h]
/-- How many steps there are to do at the most. -/
def potS (t : DT) : Nat := if t.at_ = 0 then 2 else if t.inb.isEmpty = true then 0 else 1
section
variable {c : ScT} {n : Int} {b R0 : List UInt8} {P0 : List EvT} {S0 : Int} {E : ET} {t : DT}
theorem stepE_len (E : ET) (t : DT) (r : SRes) : (stepE E t r).out.length = E.out.length + 1 := by
  unfold stepE
  cases r.out <;> simp
theorem stepE_clock (E : ET) (t : DT) (r : SRes) : (stepE E t r).clock = E.clock ∧ (stepE E t r).k = E.k ∧ (stepE E t r).wb = E.wb ∧ (stepE E t r).rounds = E.rounds := by
  unfold stepE
  cases r.out <;> exact ⟨rfl, rfl, rfl, rfl⟩
/-- What holds within a turn. -/
def InT (c : ScT) (n : Int) (b : List UInt8) (P0 : List EvT) (R0 : List UInt8) (S0 : Int) (E : ET) : Prop := (∃ t, Run c n b P0 R0 S0 E t ∧ E.waits = false ∧ E.turn = true ∧ E.out.length + potS t ≤ 9) ∨ Ovf c b P0 R0 S0 E
theorem nl_turnI (hc : NL c n) : TurnI c (InT c n b P0 R0 S0) := by
  refine ⟨fun E t h hd => ?_, fun E t h hd hr hp => ?_⟩
  · rcases h with ⟨t', h, hw, ht, hl⟩ | h
    · obtain rfl : t' = t := Option.some.inj (h.d.symm.trans hd)
      refine ⟨h.okd hc, by omega, ?_, hw, ht, ?_⟩
      · have hn := hc.ok.n
        rcases h.ph with ⟨e, _⟩ | ⟨e, _⟩
        · rw [nl_price hc t' (.inl e), if_pos e]; exact Int.le_refl _
        · rw [nl_price hc t' (.inr e), if_neg (by omega)]; omega
      · intro st hst
        rcases h.ph with ⟨e, _⟩ | ⟨e, _⟩
        · rw [nl_woke h hc e] at hst; cases hst
        · rw [nl_look h hc e] at hst
          split at hst
          · cases hst
          · injection hst with hst
            subst hst
            exact ⟨by decide, rfl⟩
    · rw [h.d] at hd; cases hd
  · rcases h with ⟨t', h, hw, ht, hl⟩ | h
    · obtain rfl : t' = t := Option.some.inj (h.d.symm.trans hd)
      rcases h.ph with ⟨e, _⟩ | ⟨e, _⟩
      · refine .inl ⟨_, nl_runWoke h hc e _, ?_, ?_, ?_⟩
        · rw [nl_woke h hc e]; exact hw
        · rw [nl_woke h hc e]; exact ht
        · rw [stepE_len]
          show E.out.length + 1 + _ ≤ 9
          have : potS t' = 2 := by unfold potS; rw [if_pos e]
          have : potS { t' with now := E.clock, at_ := 1, un := nev, pat := some .no } ≤ 1 := by unfold potS; rw [if_neg (by simp)]; split <;> omega
          omega
      · by_cases hlk : t'.win.length + t'.inb.length ≤ c.n
        · refine .inl ⟨_, nl_runLook h hc e hlk _, ?_, ?_, ?_⟩
          · rw [nl_look h hc e, if_pos hlk]; exact hw
          · rw [nl_look h hc e, if_pos hlk]; exact ht
          · rw [stepE_len]
            show E.out.length + 1 + _ ≤ 9
            have h1 := h.ready hc
            rw [hr, if_neg (by omega)] at h1
            have h2 : potS t' = 1 := by
              unfold potS
              rw [if_neg (by omega), if_neg (by intro h3; rw [h3] at h1; cases h1)]
            have h3 : potS { t' with now := E.clock, inb := [], win := t'.win ++ t'.inb, pat := some .no, lv := true } = 0 := by
              unfold potS
              rw [if_neg (by show ¬ t'.at_ = 0; omega)]
              rfl
            omega
        · exact .inr (nl_over h hc e hlk _)
    · rw [h.d] at hd; cases hd
/-- How it stands ahead of a turn. -/
structure Hd1 (c : ScT) (n : Int) (b : List UInt8) (P0 : List EvT) (R0 : List UInt8) (S0 : Int) (E : ET) (t : DT) : Prop where
  run : Run c n b P0 R0 S0 E t
  turn : E.turn = false
  w : E.waits = readyT c t E.clock
  p : 0 ≤ E.p ∧ E.p ≤ 2000000000
  pi : t.at_ = 1 → E.p ≤ (t.inb.length : Nat)
  tm : E.tm = tmT (nextT t)
  len : E.out.length + potS t ≤ 9
def Hd2 (c : ScT) (n : Int) (b : List UInt8) (P0 : List EvT) (R0 : List UInt8) (S0 : Int) (E : ET) : Prop := (∃ t, Hd1 c n b P0 R0 S0 E t) ∨ (Ovf c b P0 R0 S0 E ∧ E.out.length ≤ 9)
/-- How far it is: not above B. -/
def Prog (c : ScT) (n : Int) (b : List UInt8) (P0 : List EvT) (R0 : List UInt8) (S0 : Int) (E : ET) (B : Int) : Prop := Ovf c b P0 R0 S0 E ∨ ∃ t, Run c n b P0 R0 S0 E t ∧ t.at_ = 1 ∧ 2 * ((t.inb.length : Int) + (E.wb.length : Nat)) - E.p ≤ B
theorem Prog.more {B B' : Int} (h : Prog c n b P0 R0 S0 E B) (hb : B ≤ B') : Prog c n b P0 R0 S0 E B' := by
  rcases h with h | ⟨t, h1, h2, h3⟩
  · exact .inl h
  · exact .inr ⟨t, h1, h2, by omega⟩
theorem Run.with_ {E' : ET} (h : Run c n b P0 R0 S0 E t) (h1 : E'.d = some t) (h2 : E'.clock = E.clock) (h3 : E'.out = E.out) (h4 : E'.wb = E.wb) (h5 : E'.rd = E.rd) : Run c n b P0 R0 S0 E' t :=
  ⟨h1, h.ju, h.li, h.cu, h.lv, by rw [h2]; exact h.now, by rw [h2]; exact h.ck, h.ph, by rw [h3]; exact h.rd, by rw [h4]; exact h.all, by rw [h3]; exact h.st, h.wl, by rw [h4, h5]; exact h.rdw, by rw [h3]; exact h.ev, by rw [h3]; exact h.pre⟩
/-- One who looks: his turn, its purse being p. -/
theorem nl_turn1 (hc : NL c n) (h : Run c n b P0 R0 S0 E t) (ha : t.at_ = 1) (hw : E.waits = false ∧ E.turn = true) (hp : 0 ≤ E.p ∧ E.p ≤ 2000000000) (hlen : E.out.length + potS t ≤ 9) {E' : ET} (hT : TurnTo c E E') :
    Hd2 c n b P0 R0 S0 E' ∧ E'.k = E.k ∧ E'.clock = E.clock ∧ E'.rounds = E.rounds ∧ Prog c n b P0 R0 S0 E' (2 * ((t.inb.length : Int) + (E.wb.length : Nat))) ∧ (∀ q : Int, t.inb ≠ [] → 0 ≤ q → q ≤ (t.inb.length : Nat) → q < E.p → Prog c n b P0 R0 S0 E' (2 * ((t.inb.length : Int) + (E.wb.length : Nat)) - q - 1)) := by
  have hn := hc.ok.n
  have hpr : priceT c t = 1 + min (t.inb.length : Int) c.n := by rw [nl_price hc t (.inr ha), if_neg (by omega)]
  have hrd : readyT c t E.clock = !t.inb.isEmpty := by rw [h.ready hc, if_neg (by omega)]
  by_cases hst : readyT c t E.clock = true ∧ priceT c t ≤ E.p
  · have hne : t.inb ≠ [] := by intro e; rw [hrd, e] at hst; cases hst.1
    have hpos : 0 < t.inb.length := List.length_pos_iff.2 hne
    have hN := turnN_one h.d hst 0
    rw [turnN] at hN
    obtain ⟨S, hS⟩ : ∃ S, S = stepE { E with p := E.p - priceT c t } t (dstepT c { t with now := E.clock }) := ⟨_, rfl⟩
    by_cases hlk : t.win.length + t.inb.length ≤ c.n
    · have hR := nl_runLook h hc ha hlk (E.p - priceT c t)
      have hSd : S.waits = false ∧ S.turn = true ∧ S.p = E.p - priceT c t ∧ S.wb = E.wb ∧ S.k = E.k ∧ S.clock = E.clock ∧ S.rounds = E.rounds ∧ S.out.length = E.out.length + 1 := by
        rw [hS]
        refine ⟨?_, ?_, ?_, ?_, ?_, ?_, ?_, stepE_len _ _ _⟩ <;> rw [nl_look h hc ha, if_pos hlk]
        · exact hw.1
        · exact hw.2
        all_goals rfl
      rw [← hS] at hN hR
      have hr2 := hR.ready hc
      have hr2' : readyT c { t with now := E.clock, inb := [], win := t.win ++ t.inb, pat := some .no, lv := true } S.clock = false := by
        rw [hr2, if_neg (by show ¬ t.at_ = 0; omega)]; rfl
      have hstop : StopT c S := .inr ⟨_, hR.d, fun hh => by rw [hr2'] at hh; exact absurd hh.1 (by decide)⟩
      rcases TurnTo_det hN hstop hT with ⟨hd, _⟩ | ⟨t2, hd, rfl⟩
      · rw [hR.d] at hd; cases hd
      · obtain rfl := Option.some.inj (hR.d.symm.trans hd)
        have hp0 : (turnD c S { t with now := E.clock, inb := [], win := t.win ++ t.inb, pat := some .no, lv := true }).p = 0 := by
          show (if readyT c _ S.clock = true then S.p else 0) = 0
          rw [if_neg (by rw [hr2']; decide)]
        have hR2 : Run c n b P0 R0 S0 (turnD c S { t with now := E.clock, inb := [], win := t.win ++ t.inb, pat := some .no, lv := true }) _ := hR.with_ hR.d rfl rfl rfl rfl
        have hwb : (turnD c S { t with now := E.clock, inb := [], win := t.win ++ t.inb, pat := some .no, lv := true }).wb = E.wb := hSd.2.2.2.1
        have hph : ∀ B : Int, 2 * (E.wb.length : Int) ≤ B → Prog c n b P0 R0 S0 (turnD c S { t with now := E.clock, inb := [], win := t.win ++ t.inb, pat := some .no, lv := true }) B := fun B hB => .inr ⟨_, hR2, ha, by
          rw [hp0, hwb]
          show 2 * (((0 : Nat) : Int) + (E.wb.length : Nat)) - 0 ≤ B
          omega⟩
        refine ⟨.inl ⟨_, hR2, rfl, rfl, by rw [hp0]; omega, fun _ => by rw [hp0]; exact Int.le_refl _, rfl, ?_⟩, hSd.2.2.2.2.1, hSd.2.2.2.2.2.1, hSd.2.2.2.2.2.2.1, hph _ (by omega), fun q _ h1 h2 h3 => hph _ (by omega)⟩
        show S.out.length + potS _ ≤ 9
        have h3 : potS { t with now := E.clock, inb := [], win := t.win ++ t.inb, pat := some .no, lv := true } = 0 := by
          unfold potS
          rw [if_neg (by show ¬ t.at_ = 0; omega)]
          rfl
        have h2 : potS t = 1 := by
          unfold potS
          rw [if_neg (by omega), if_neg (by intro h3; exact hne (List.isEmpty_iff.1 h3))]
        rw [h3, hSd.2.2.2.2.2.2.2]; omega
    · have hO := nl_over h hc ha hlk (E.p - priceT c t)
      have hSc := stepE_clock { E with p := E.p - priceT c t } t (dstepT c { t with now := E.clock })
      have hSl := stepE_len { E with p := E.p - priceT c t } t (dstepT c { t with now := E.clock })
      rw [← hS] at hN hO hSc hSl
      have h2 : potS t = 1 := by
        unfold potS
        rw [if_neg (by omega), if_neg (by intro h3; exact hne (List.isEmpty_iff.1 h3))]
      rcases TurnTo_det hN (.inl hO.d) hT with ⟨_, rfl⟩ | ⟨t2, hd, _⟩
      · exact ⟨.inr ⟨hO, by rw [hSl]; show E.out.length + 1 ≤ 9; omega⟩, hSc.2.1, hSc.1, hSc.2.2.2, .inl hO, fun q _ _ _ _ => .inl hO⟩
      · rw [hO.d] at hd; cases hd
  · have hN : turnN c 0 E = E := rfl
    have hstop : StopT c E := .inr ⟨t, h.d, hst⟩
    rcases TurnTo_det hN hstop hT with ⟨hd, _⟩ | ⟨t2, hd, rfl⟩
    · rw [h.d] at hd; cases hd
    · obtain rfl := Option.some.inj (h.d.symm.trans hd)
      have hR2 : Run c n b P0 R0 S0 (turnD c E t) t := h.with_ h.d rfl rfl rfl rfl
      by_cases hr : readyT c t E.clock = true
      · have hlt : ¬ priceT c t ≤ E.p := fun hh => hst ⟨hr, hh⟩
        have hp0 : (turnD c E t).p = E.p := by
          show (if readyT c t E.clock = true then E.p else 0) = E.p
          rw [if_pos hr]
        refine ⟨.inl ⟨t, hR2, rfl, rfl, by rw [hp0]; exact hp, fun _ => by rw [hp0]; omega, rfl, hlen⟩, rfl, rfl, rfl, .inr ⟨t, hR2, ha, ?_⟩, fun q _ h1 h2 h3 => .inr ⟨t, hR2, ha, ?_⟩⟩
        · rw [hp0]; show 2 * ((t.inb.length : Int) + (E.wb.length : Nat)) - E.p ≤ _; omega
        · rw [hp0]; show 2 * ((t.inb.length : Int) + (E.wb.length : Nat)) - E.p ≤ _; omega
      · have he : t.inb = [] := by
          rw [hrd] at hr
          have : t.inb.isEmpty = true := by simpa using hr
          exact List.isEmpty_iff.1 this
        have hp0 : (turnD c E t).p = 0 := by
          show (if readyT c t E.clock = true then E.p else 0) = 0
          rw [if_neg hr]
        refine ⟨.inl ⟨t, hR2, rfl, rfl, by rw [hp0]; omega, fun _ => by rw [hp0]; omega, rfl, hlen⟩, rfl, rfl, rfl, .inr ⟨t, hR2, ha, ?_⟩, fun q hne _ _ _ => absurd he hne⟩
        rw [hp0]; show 2 * ((t.inb.length : Int) + (E.wb.length : Nat)) - 0 ≤ _; omega
/-- A turn, from its head on. -/
theorem nl_turn (hc : NL c n) (hb : b.length ≤ 20) (h : Hd1 c n b P0 R0 S0 E t) (hw : E.waits = true) {E' : ET} (hT : TurnTo c (tuB c E) E') :
    Hd2 c n b P0 R0 S0 E' ∧ E'.k = E.k + 1 ∧ E'.clock = E.clock ∧ E'.rounds = E.rounds ∧ Prog c n b P0 R0 S0 E' (2 * ((t.inb.length : Int) + (E.wb.length : Nat))) ∧ (t.at_ = 1 → Prog c n b P0 R0 S0 E' (2 * ((t.inb.length : Int) + (E.wb.length : Nat)) - E.p - 1)) := by
  have hq := hc.ok.q
  have hR : Run c n b P0 R0 S0 (tuB c E) t := h.run.with_ h.run.d rfl rfl rfl rfl
  have hp : (tuB c E).p = min (E.p + c.q) 2000000000 := rfl
  have hpb := h.p
  have hrd : readyT c t E.clock = true := by rw [← h.w]; exact hw
  rcases h.run.ph with ⟨ha, hun, hwin⟩ | ⟨ha, _⟩
  · -- the pause
    have hpr : priceT c t = 1 := by rw [nl_price hc t (.inl ha), if_pos ha]
    have hst : readyT c t (tuB c E).clock = true ∧ priceT c t ≤ (tuB c E).p := ⟨hrd, by rw [hp, hpr]; omega⟩
    have hR1 := nl_runWoke hR hc ha ((tuB c E).p - priceT c t)
    obtain ⟨S, hS⟩ : ∃ S, S = stepE { tuB c E with p := (tuB c E).p - priceT c t } t (dstepT c { t with now := (tuB c E).clock }) := ⟨_, rfl⟩
    have hSd : S.waits = false ∧ S.turn = true ∧ S.p = (tuB c E).p - priceT c t := by
      rw [hS]
      refine ⟨?_, ?_, ?_⟩ <;> rw [nl_woke hR hc ha] <;> rfl
    have hSc := stepE_clock { tuB c E with p := (tuB c E).p - priceT c t } t (dstepT c { t with now := (tuB c E).clock })
    have hSl := stepE_len { tuB c E with p := (tuB c E).p - priceT c t } t (dstepT c { t with now := (tuB c E).clock })
    have hstep := fun m => turnN_one hR.d hst m
    rw [← hS] at hR1 hSc hSl
    have hT2 : TurnTo c S E' := by
      obtain ⟨k, E2, h1, h2⟩ := hT
      have e1 : E2 = turnN c k (tuB c E) := by have := h1 0; rw [Nat.zero_add] at this; exact this.symm
      have s2 : StopT c E2 := by
        rcases h2 with ⟨h, _⟩ | ⟨t, h, hn, _⟩
        · exact .inl h
        · exact .inr ⟨t, h, hn⟩
      refine ⟨k, E2, fun m => ?_, h2⟩
      have h3 := h1 (m + 1)
      have h4 : turnN c (m + 1 + k) (tuB c E) = turnN c (m + k) S := by
        rw [show m + 1 + k = m + k + 1 by omega, hstep (m + k), ← hS]
      rw [← h4, h3, turnN_stop s2, turnN_stop s2]
    have hpot : potS { t with now := (tuB c E).clock, at_ := 1, un := nev, pat := some .no } ≤ 1 := by
      unfold potS; rw [if_neg (by simp)]; split <;> omega
    have hpot2 : potS t = 2 := by unfold potS; rw [if_pos ha]
    have hlen := h.len
    have := nl_turn1 hc hR1 rfl ⟨hSd.1, hSd.2.1⟩ (by rw [hSd.2.2, hp, hpr]; omega) (by
      rw [hSl]
      show E.out.length + 1 + _ ≤ 9
      omega) hT2
    obtain ⟨g1, g2, g3, g4, g5, _⟩ := this
    rw [hSc.2.2.1] at g5
    exact ⟨g1, g2.trans hSc.2.1, g3.trans hSc.1, g4.trans hSc.2.2.2, g5, fun e => absurd ha (by omega)⟩
  · have := nl_turn1 hc hR ha ⟨rfl, rfl⟩ (by rw [hp]; omega) h.len hT
    obtain ⟨g1, g2, g3, g4, g5, g6⟩ := this
    refine ⟨g1, g2, g3, g4, g5, fun _ => ?_⟩
    have hne : t.inb ≠ [] := by
      intro e
      rw [h.run.ready hc, if_neg (by omega), e] at hrd
      cases hrd
    have hle := h.pi ha
    have hall := congrArg List.length h.run.all
    simp only [List.length_append] at hall
    exact g6 E.p hne hpb.1 hle (by rw [hp]; omega)
/-- All turns of a round. -/
theorem nl_turns (hc : NL c n) (hb : b.length ≤ 20) : ∀ (m : Nat) (E E' : ET), Hd2 c n b P0 R0 S0 E → TurnsTo c m E E' →
    Hd2 c n b P0 R0 S0 E' ∧ E'.k ≤ E.k + m ∧ E'.clock = E.clock ∧ E'.rounds = E.rounds ∧ (∀ B, 0 ≤ B → Prog c n b P0 R0 S0 E B → Prog c n b P0 R0 S0 E' B) ∧ (1 ≤ m → E.waits = true → (∀ B, 0 ≤ B → Prog c n b P0 R0 S0 E (B + 1) → Prog c n b P0 R0 S0 E' B) ∧ Prog c n b P0 R0 S0 E' 40) ∧ (E.waits = false → E' = E)
  | 0, E, E', h, hT => by
    obtain rfl : E' = E := hT
    exact ⟨h, Nat.le_refl _, rfl, rfl, fun _ _ h => h, fun h => absurd h (by decide), fun _ => rfl⟩
  | m + 1, E, E', h, hT => by
    rcases hT with ⟨hw, E1, h1, h2⟩ | ⟨hw, rfl⟩
    · rcases h with ⟨t, h⟩ | ⟨h, _⟩
      · obtain ⟨g1, g2, g3, g4, g5, g6⟩ := nl_turn hc hb h hw h1
        obtain ⟨k1, k2, k3, k4, k5, k6, k7⟩ := nl_turns hc hb m E1 E' g1 h2
        have hall := congrArg List.length h.run.all
        simp only [List.length_append] at hall
        have hp := h.p
        have key : ∀ B, Prog c n b P0 R0 S0 E B → t.at_ = 1 ∧ 2 * ((t.inb.length : Int) + (E.wb.length : Nat)) - E.p ≤ B := fun B hB => by
          rcases hB with hB | ⟨t', hB, ha, hB2⟩
          · have hd := h.run.d; rw [hB.d] at hd; cases hd
          · obtain rfl := Option.some.inj (hB.d.symm.trans h.run.d)
            exact ⟨ha, hB2⟩
        refine ⟨k1, by rw [g2] at k2; omega, k3.trans g3, k4.trans g4, fun B h0 hB => ?_, fun _ _ => ⟨fun B h0 hB => ?_, k5 40 (by decide) (g5.more (by omega))⟩, fun e => by rw [hw] at e; cases e⟩
        · obtain ⟨ha, hB2⟩ := key B hB
          exact k5 B h0 ((g6 ha).more (by omega))
        · obtain ⟨ha, hB2⟩ := key (B + 1) hB
          exact k5 B h0 ((g6 ha).more (by omega))
      · rw [h.w.1] at hw; cases hw
    · exact ⟨h, by omega, rfl, rfl, fun _ _ h => h, fun _ e => (by rw [hw] at e; cases e), fun _ => rfl⟩
/-- How it stands ahead of the turns of a round, when somebody may still wait for his deadline. -/
structure Mid (c : ScT) (n : Int) (b : List UInt8) (P0 : List EvT) (R0 : List UInt8) (S0 : Int) (E : ET) (t : DT) : Prop where
  run : Run c n b P0 R0 S0 E t
  turn : E.turn = false
  w1 : t.at_ = 1 → E.waits = !t.inb.isEmpty
  w0 : t.at_ = 0 → E.waits = true → dueB n E.clock = true
  p : 0 ≤ E.p ∧ E.p ≤ 2000000000
  pi : t.at_ = 1 → E.p ≤ (t.inb.length : Nat)
  tm : E.tm = tmT (nextT t)
  len : E.out.length + potS t ≤ 9
theorem nl_wake (hc : NL c n) (h : Mid c n b P0 R0 S0 E t) : Hd1 c n b P0 R0 S0 (wakeE c E) t ∧ (wakeE c E).k = E.k ∧ (wakeE c E).clock = E.clock ∧ (wakeE c E).rounds = E.rounds ∧ (wakeE c E).p = E.p ∧ (wakeE c E).wb = E.wb := by
  have hn := hc.n
  have hnx := h.run.next hc
  have hrd := h.run.ready hc
  rcases h.run.ph with ⟨ha, hun, hwin⟩ | ⟨ha, hun, hpat⟩
  · have htm : E.tm = some n := by rw [h.tm, hnx, hun]; unfold tmT; rw [if_neg (by unfold nev; omega)]
    by_cases hd : dueB n E.clock = true
    · have e : wakeE c E = settleT c { E with tm := none } t := by
        unfold wakeE
        rw [htm, h.run.d]
        simp only
        rw [if_pos hd]
      rw [e]
      have hr : readyT c t E.clock = true := by rw [hrd, if_pos ha]; exact hd
      have hw : (settleT c { E with tm := none } t).waits = true := by
        show (if readyT c t E.clock = true then E.waits || !E.turn else E.waits) = true
        rw [if_pos hr, h.turn]; cases E.waits <;> rfl
      exact ⟨⟨h.run.with_ h.run.d rfl rfl rfl rfl, h.turn, by rw [hw]; exact hr.symm, h.p, h.pi, rfl, h.len⟩, rfl, rfl, rfl, rfl, rfl⟩
    · have e : wakeE c E = E := by
        unfold wakeE
        rw [htm, h.run.d]
        simp only
        rw [if_neg hd]
      rw [e]
      have hr : readyT c t E.clock = false := by rw [hrd, if_pos ha]; simpa using hd
      have hw : E.waits = false := by
        cases hq : E.waits with
        | false => rfl
        | true => exact absurd (h.w0 ha hq) hd
      exact ⟨⟨h.run, h.turn, by rw [hw, hr], h.p, h.pi, h.tm, h.len⟩, rfl, rfl, rfl, rfl, rfl⟩
  · have htm : E.tm = none := by rw [h.tm, hnx, hun]; rfl
    have e : wakeE c E = E := by
      unfold wakeE
      rw [htm]
    rw [e]
    exact ⟨⟨h.run, h.turn, by rw [h.w1 ha, hrd, if_neg (by omega)], h.p, h.pi, h.tm, h.len⟩, rfl, rfl, rfl, rfl, rfl⟩
/-- What is read of the wire. -/
theorem nl_report (hc : NL c n) (hb : b.length ≤ 20) (h : Mid c n b P0 R0 S0 E t) (hl : E.out.length + potS t ≤ 7) : ∃ t', Mid c n b P0 R0 S0 (reportT c E t) t' ∧ t'.at_ = t.at_ ∧ (reportT c E t).k = E.k ∧ (reportT c E t).clock = E.clock ∧ (reportT c E t).rounds = E.rounds ∧ (reportT c E t).p = E.p ∧ t'.inb.length + (reportT c E t).wb.length = t.inb.length + E.wb.length ∧ (t'.inb = [] → (reportT c E t).wb = []) := by
  have hr1 := hc.ok.r.1
  have hall := congrArg List.length h.run.all
  simp only [List.length_append] at hall
  by_cases hk : readK c E t = 0
  · have e : reportT c E t = E := by unfold reportT; rw [if_pos hk]
    rw [e]
    refine ⟨t, h, rfl, rfl, rfl, rfl, rfl, rfl, fun he => ?_⟩
    unfold readK at hk
    rw [he, List.length_nil] at hk
    exact List.length_eq_zero_iff.1 (by omega)
  · have hkle : readK c E t ≤ E.wb.length := by unfold readK; omega
    obtain ⟨k, hk2⟩ : ∃ k, k = readK c E t := ⟨_, rfl⟩
    have htl : (E.wb.take k).length = k := by rw [List.length_take, hk2]; omega
    have hdl : (E.wb.drop k).length = E.wb.length - k := by rw [List.length_drop]
    have e : reportT c E t = settleT c (readT c E t) { t with inb := t.inb ++ E.wb.take k } := by unfold reportT; rw [if_neg hk, hk2]
    have hrt : readT c E t = { E with d := some { t with inb := t.inb ++ E.wb.take k }, wb := E.wb.drop k, rd := E.rd + k, out := E.out ++ [⟨4, 0, k, 0, ⟨(E.wb.take k).toArray⟩, 0, 0, 0, 0, 0, 0, 0⟩] } := by unfold readT; rw [← hk2, if_neg (by rw [hk2]; exact hk)]
    rw [e, hrt]
    have hne : t.inb ++ E.wb.take k ≠ [] := by
      intro he
      have := congrArg List.length he
      rw [List.length_append, htl, List.length_nil] at this
      omega
    have hlen2 : (t.inb ++ E.wb.take k).length = t.inb.length + k := by rw [List.length_append, htl]
    have R : Run c n b P0 R0 S0 (settleT c { E with d := some { t with inb := t.inb ++ E.wb.take k }, wb := E.wb.drop k, rd := E.rd + k, out := E.out ++ [⟨4, 0, k, 0, ⟨(E.wb.take k).toArray⟩, 0, 0, 0, 0, 0, 0, 0⟩] } { t with inb := t.inb ++ E.wb.take k }) { t with inb := t.inb ++ E.wb.take k } := by
      refine ⟨rfl, h.run.ju, h.run.li, h.run.cu, h.run.lv, h.run.now, h.run.ck, h.run.ph, ?_, ?_, ?_, h.run.wl, ?_, ?_, ?_⟩
      · show R0 ++ rdOf (E.out ++ [_]) = t.win ++ (t.inb ++ E.wb.take k)
        rw [rdOf_snoc, if_pos rfl, ← List.append_assoc, h.run.rd, List.append_assoc]
      · show t.win ++ (t.inb ++ E.wb.take k) ++ E.wb.drop k = b
        rw [← h.run.all, List.append_assoc, List.append_assoc, List.append_assoc, List.take_append_drop]
      · show stF S0 (E.out ++ [_]) = 0
        rw [stF_snoc, if_neg (by show ¬ (4 : Int) = 8; decide)]; exact h.run.st
      · show E.rd + (k : Int) + ((E.wb.drop k).length : Nat) = (b.length : Nat)
        have := h.run.rdw
        rw [hdl]; omega
      · intro v hv
        rcases List.mem_append.1 hv with hv | hv
        · exact h.run.ev v hv
        · simp only [List.mem_cons, List.not_mem_nil, or_false] at hv
          subst hv
          refine ⟨rfl, (by show (4 : Int) ≠ 5; decide), (by show (4 : Int) ≠ 7; decide), (by show (4 : Int) ≠ 9; decide), ?_, rfl⟩
          show (E.wb.take k).toArray.size ≤ 1000
          rw [List.size_toArray, htl]; omega
      · exact pre_snoc h.run.pre _
    have hrd := R.ready hc
    refine ⟨{ t with inb := t.inb ++ E.wb.take k }, ⟨R, h.turn, fun ha => ?_, fun ha hw => ?_, h.p, fun ha => ?_, rfl, ?_⟩, rfl, rfl, rfl, rfl, rfl, ?_, fun he => absurd he hne⟩
    · have hr : readyT c { t with inb := t.inb ++ E.wb.take k } E.clock = true := by
        have h1 := hrd
        rw [if_neg (by show ¬ t.at_ = 0; have : t.at_ = 1 := ha; omega)] at h1
        refine h1.trans ?_
        show (!(t.inb ++ E.wb.take k).isEmpty) = true
        cases hq : t.inb ++ E.wb.take k with
        | nil => exact absurd hq hne
        | cons _ _ => rfl
      show (if readyT c _ E.clock = true then E.waits || !E.turn else E.waits) = !(t.inb ++ E.wb.take k).isEmpty
      rw [if_pos hr, h.turn]
      cases hq : t.inb ++ E.wb.take k with
      | nil => exact absurd hq hne
      | cons _ _ => cases E.waits <;> rfl
    · have hw : (if readyT c { t with inb := t.inb ++ E.wb.take k } E.clock = true then E.waits || !E.turn else E.waits) = true := hw
      have h1 := hrd
      rw [if_pos ha] at h1
      have h1 : readyT c { t with inb := t.inb ++ E.wb.take k } E.clock = dueB n E.clock := h1
      by_cases hd : dueB n E.clock = true
      · exact hd
      · rw [if_neg (by rw [h1]; exact hd)] at hw
        exact h.w0 ha hw
    · show E.p ≤ ((t.inb ++ E.wb.take k).length : Nat)
      have := h.pi ha
      rw [hlen2]; omega
    · show (E.out ++ [_]).length + potS _ ≤ 9
      rw [List.length_append]
      have : potS { t with inb := t.inb ++ E.wb.take k } ≤ potS t + 1 := by
        unfold potS
        show (if t.at_ = 0 then 2 else if (t.inb ++ E.wb.take k).isEmpty = true then 0 else 1) ≤ _
        split
        · omega
        · split <;> omega
      simp only [List.length_cons, List.length_nil]
      omega
    · show (t.inb ++ E.wb.take k).length + (E.wb.drop k).length = _
      rw [hlen2, hdl]; omega
end
end Go.Proofs.YtbhgmccaecmpjaaGreat
