/-
  TopNothingLost's plain law: all rounds.
  Conditions: none.
-/
import Derived.Test.YtbhgmccaecmpjaaGreatW41
import Derived.Test.YtbhgmccaecmpjaaGreatW45
namespace Go.Proofs.YtbhgmccaecmpjaaGreat
set_option linter.unusedVariables false
set_option linter.unusedSimpArgs false
open Go.RowKit

def RL : RdT := ⟨1, false, none, some (false, 0)⟩
theorem dueB_le {n k : Int} (hn : 0 ≤ n ∧ n ≤ 8) (hk : 0 ≤ k) : dueB n k = decide (n ≤ k) := by
  have h1 : ownT n = n := by unfold ownT; rw [if_neg (by omega)]
  have h2 : ownT k = k := by unfold ownT; rw [if_neg (by omega)]
  unfold dueB
  rw [h1, h2]
  have : n ≠ nev := by unfold nev; omega
  simp [this]
section
variable {c : ScT} {n : Int} {b R0 : List UInt8} {P0 : List EvT} {S0 : Int} {E : ET} {t : DT}
/-- Behind a round at tick i. -/
structure EndI (c : ScT) (n : Int) (b : List UInt8) (P0 : List EvT) (R0 : List UInt8) (S0 : Int) (i : Nat) (E : ET) : Prop where
  hd : Hd2 c n b P0 R0 S0 E
  ck : E.clock = (i : Nat)
  k : E.k ≤ 64 * (i + 1)
  rn : E.rounds = (i : Nat) + 1
  pr : (∃ t, Run c n b P0 R0 S0 E t ∧ t.at_ = 0 ∧ (i : Int) < n) ∨ Prog c n b P0 R0 S0 E (max (40 - ((i : Int) - n)) 0)
theorem good_round (k : Int) : GoodEv ⟨1, 0, 0, k, ⟨#[]⟩, 0, 0, 0, 0, 0, 0, 0⟩ := ⟨rfl, (by show (1 : Int) ≠ 5; decide), (by show (1 : Int) ≠ 7; decide), (by show (1 : Int) ≠ 9; decide), Nat.zero_le _, rfl⟩
theorem nl_beg (h : Run c n b P0 R0 S0 E t) (hk : E.clock + 1 ≤ 1000) : Run c n b (begE E 1).out (R0 ++ rdOf E.out) (stF S0 E.out) (begE E 1) t := by
  have hn := h.now
  refine ⟨h.d, h.ju, h.li, h.cu, h.lv, ⟨hn.1, by show t.now ≤ E.clock + 1; omega⟩, hk, h.ph, ?_, h.all, ?_, h.wl, h.rdw, ?_, ⟨[], by simp⟩⟩
  · show (R0 ++ rdOf E.out) ++ [] = _
    rw [List.append_nil]; exact h.rd
  · show stF (stF S0 E.out) [_] = 0
    exact h.st
  · intro v hv
    obtain rfl : v = _ := List.mem_singleton.1 hv
    exact good_round _
theorem ovf_beg (h : Ovf c b P0 R0 S0 E) : Ovf c b (begE E 1).out (R0 ++ rdOf E.out) (stF S0 E.out) (begE E 1) := by
  refine ⟨h.d, ?_, ?_, ?_, h.w, h.tm, ?_, ⟨[], by simp⟩⟩
  · show stF (stF S0 E.out) [_] = 4
    exact h.st
  · show (R0 ++ rdOf E.out) ++ [] ++ E.wb = b
    rw [List.append_nil]; exact h.rd
  · show c.n < ((R0 ++ rdOf E.out) ++ []).length
    rw [List.append_nil]; exact h.long
  · intro v hv
    obtain rfl : v = _ := List.mem_singleton.1 hv
    exact good_round _
theorem mid_beg (hc : NL c n) (h : Hd1 c n b P0 R0 S0 E t) (hk : E.clock + 1 ≤ 1000) : Mid c n b (begE E 1).out (R0 ++ rdOf E.out) (stF S0 E.out) (begE E 1) t := by
  have hrd := h.run.ready hc
  have hck : 0 ≤ E.clock := by have := h.run.now; omega
  refine ⟨nl_beg h.run hk, h.turn, fun ha => ?_, fun ha hw => ?_, h.p, h.pi, h.tm, ?_⟩
  · show E.waits = _
    rw [h.w, hrd, if_neg (by omega)]
  · have hw : E.waits = true := hw
    rw [h.w, hrd, if_pos ha, dueB_le hc.n hck] at hw
    show dueB n (E.clock + 1) = true
    rw [dueB_le hc.n (by omega)]
    have := of_decide_eq_true hw
    exact decide_eq_true (by omega)
  · show 1 + potS t ≤ 9
    unfold potS; split
    · omega
    · split <;> omega
/-- What holds ahead of each turn. -/
def JX (c : ScT) (n : Int) (b : List UInt8) (P0 : List EvT) (R0 : List UInt8) (S0 : Int) (m : Nat) (E : ET) : Prop := Hd2 c n b P0 R0 S0 E ∧ E.k + m ≤ 1000000
theorem jx_ok (hc : NL c n) (hb : b.length ≤ 20) : JOk c (JX c n b P0 R0 S0) := by
  intro m E ⟨h, hk⟩
  rcases h with ⟨t, h⟩ | ⟨h, _⟩
  · refine ⟨h.turn, fun hw => ⟨⟨t, h.run.d⟩, by omega, ⟨_, nl_turnI hc, .inl ⟨t, h.run.with_ h.run.d rfl rfl rfl rfl, rfl, rfl, h.len⟩⟩, fun E1 hT => ?_⟩⟩
    obtain ⟨g1, g2, _⟩ := nl_turn hc hb h hw hT
    exact ⟨g1, by omega⟩
  · exact ⟨h.w.2, fun hw => by rw [h.w.1] at hw; cases hw⟩
theorem wake_none {E : ET} (h : E.tm = none) : wakeE c E = E := by unfold wakeE; rw [h]
/-- Turns, from what stands ahead of them on. -/
theorem nl_fin (hc : NL c n) (hb : b.length ≤ 20) (h : Mid c n b P0 R0 S0 E t) {E' : ET} (hT : TurnsTo c c.v (wakeE c E) E') {i : Nat} (hi : E.clock = (i : Nat)) (hk : E.k ≤ 64 * i) (hr : E.rounds = (i : Nat) + 1)
    (h0 : t.at_ = 0 → (i : Int) ≤ n) (h1 : t.at_ = 1 → 2 * ((t.inb.length : Int) + (E.wb.length : Nat)) - E.p ≤ max (40 - ((i : Int) - n)) 0 + 1) (h2 : t.inb = [] → t.at_ = 1 → E.wb = []) : EndI c n b P0 R0 S0 i E' := by
  have hv := hc.ok.v
  obtain ⟨g, g1, g2, g3, g4, g5⟩ := nl_wake hc h
  obtain ⟨k1, k2, k3, k4, k5, k6, k7⟩ := nl_turns hc hb c.v _ _ (.inl ⟨t, g⟩) hT
  refine ⟨k1, by rw [k3, g2, hi], by rw [g1] at k2; omega, by rw [k4, g3, hr], ?_⟩
  have hrd := g.run.ready hc
  have hw := g.w
  by_cases hwt : (wakeE c E).waits = true
  · obtain ⟨p1, p2⟩ := k6 hv.1 hwt
    rcases h.run.ph with ⟨ha, _⟩ | ⟨ha, _⟩
    · right
      have hd : n ≤ (i : Int) := by
        rw [hwt, hrd, if_pos ha, g2, hi, dueB_le hc.n (by omega)] at hw
        exact of_decide_eq_true hw.symm
      have := h0 ha
      exact p2.more (by omega)
    · right
      exact p1 _ (by omega) (.inr ⟨t, g.run, ha, by rw [g4, g5]; exact h1 ha⟩)
  · have hwf : (wakeE c E).waits = false := by simpa using hwt
    have e := k7 hwf
    rw [e]
    rcases h.run.ph with ⟨ha, _⟩ | ⟨ha, _⟩
    · left
      refine ⟨t, g.run, ha, ?_⟩
      rw [hwf, hrd, if_pos ha, g2, hi, dueB_le hc.n (by omega)] at hw
      have := of_decide_eq_false hw.symm
      omega
    · right
      right
      refine ⟨t, g.run, ha, ?_⟩
      have he : t.inb = [] := by
        rw [hwf, hrd, if_neg (by omega)] at hw
        cases hq : t.inb with
        | nil => rfl
        | cons _ _ => rw [hq] at hw; cases hw
      have hwb := h2 he ha
      have hp := g.p
      rw [g5, hwb, he]
      simp only [List.length_nil]
      omega
/-- A round that reads. -/
theorem nl_round (hc : NL c n) (hb : b.length ≤ 20) {i : Nat} (h : EndI c n b P0 R0 S0 i E) (hi : i + 1 ≤ 900) :
    (∃ J, JOk c J ∧ RndOk c RL E J) ∧ ∀ E', RoundTo c RL E E' → EndI c n b (begE E 1).out (R0 ++ rdOf E.out) (stF S0 E.out) (i + 1) E' := by
  have hck := h.ck
  have hrn := h.rn
  have hkk := h.k
  have hv := hc.ok.v
  have hbk : (begE E 1).clock = ((i + 1 : Nat) : Int) := by show E.clock + 1 = _; rw [hck]; omega
  have hbr : (begE E 1).rounds = ((i + 1 : Nat) : Int) + 1 := by show E.rounds + 1 = _; rw [hrn]; omega
  -- what a report comes to
  have key : ∀ E4, RepTo c (some (false, 0)) (begE E 1) E4 → (Ovf c b (begE E 1).out (R0 ++ rdOf E.out) (stF S0 E.out) E4 ∧ E4 = begE E 1) ∨ ∃ t t', Hd1 c n b P0 R0 S0 E t ∧ Mid c n b (begE E 1).out (R0 ++ rdOf E.out) (stF S0 E.out) E4 t' ∧ t'.at_ = t.at_ ∧ E4.k = E.k ∧ E4.clock = ((i + 1 : Nat) : Int) ∧ E4.rounds = ((i + 1 : Nat) : Int) + 1 ∧ E4.p = E.p ∧ t'.inb.length + E4.wb.length = t.inb.length + E.wb.length ∧ (t'.inb = [] → E4.wb = []) := by
    intro E4 h4
    rcases h.hd with ⟨t, h1⟩ | ⟨h1, _⟩
    · rcases h4 with ⟨hd, _⟩ | ⟨t2, hd, rfl⟩
      · have := h1.run.d; rw [show E.d = none from hd] at this; cases this
      · obtain rfl : t = t2 := Option.some.inj (h1.run.d.symm.trans hd)
        right
        have hm := mid_beg hc h1 (by rw [hck]; omega)
        obtain ⟨t', g1, g2, g3, g4, g5, g6, g7, g8⟩ := nl_report hc hb hm (by
          show 1 + potS t ≤ 7
          unfold potS; split
          · omega
          · split <;> omega)
        exact ⟨t, t', h1, g1, g2, g3, g4.trans hbk, g5.trans hbr, g6, g7, g8⟩
    · rcases h4 with ⟨_, rfl⟩ | ⟨t2, hd, _⟩
      · exact .inl ⟨ovf_beg h1, rfl⟩
      · have h2 := h1.d; rw [show E.d = some t2 from hd] at h2; cases h2
  refine ⟨⟨JX c n b (begE E 1).out (R0 ++ rdOf E.out) (stF S0 E.out), jx_ok hc hb, ⟨⟨(by decide), (by rw [hck]; omega), (by rw [hck]; show ((i : Nat) : Int) + 1 ≤ _; omega)⟩, (by rw [hrn]; omega), fun e => (by cases e), fun u e => (by cases e), fun b' k e => ?_, fun E4 h4 => ?_⟩⟩, fun E' hT => ?_⟩
  · obtain ⟨rfl, rfl⟩ : false = b' ∧ (0 : Int) = k := by
      have e : (false, (0 : Int)) = (b', k) := Option.some.inj e
      exact ⟨congrArg Prod.fst e, congrArg Prod.snd e⟩
    rcases h.hd with ⟨t, h1⟩ | ⟨h1, _⟩
    · right
      have hR := nl_beg h1.run (by rw [hck]; omega)
      have hall := congrArg List.length hR.all
      simp only [List.length_append] at hall
      have hrw := hR.rdw
      exact ⟨t, hR.d, hR.easy hc, (by show (begE E 1).wb.length ≤ 500000; omega), (by show 0 ≤ (begE E 1).rd ∧ (begE E 1).rd ≤ 500000; omega), (by show 1 ≤ 900000; decide), fun e => (by cases e)⟩
    · exact .inl ⟨h1.d, rfl⟩
  · rcases key E4 h4 with ⟨g, rfl⟩ | ⟨t, t', _, g, _, g3, _⟩
    · refine ⟨fun u hu => (by rw [g.tm] at hu; cases hu), ?_⟩
      rw [wake_none g.tm]
      exact ⟨.inr ⟨g, (by show 1 ≤ 9; decide)⟩, (by show E.k + c.v ≤ 1000000; omega)⟩
    · refine ⟨fun u hu => ⟨t', g.run.d, g.run.easy hc⟩, ?_⟩
      obtain ⟨q, q1, _⟩ := nl_wake hc g
      exact ⟨.inl ⟨t', q⟩, by rw [q1, g3]; omega⟩
  · obtain ⟨E4, h4, hT⟩ := hT
    rcases key E4 h4 with ⟨g, rfl⟩ | ⟨t, t', h1, g, g2, g3, g4, g5, g6, g7, g8⟩
    · rw [wake_none g.tm] at hT
      obtain ⟨k1, k2, k3, k4, k5, k6, k7⟩ := nl_turns hc hb c.v _ _ (.inr ⟨g, by show 1 ≤ 9; decide⟩) hT
      have e := k7 g.w.1
      subst e
      exact ⟨k1, hbk, by show E.k ≤ _; omega, hbr, .inr (.inl g)⟩
    · refine nl_fin hc hb g hT g4 (by rw [g3]; omega) g5 (fun ha => ?_) (fun ha => ?_) (fun e _ => g8 e)
      · rw [g2] at ha
        rcases h.pr with ⟨t2, hr2, _, hlt⟩ | hp
        · omega
        · rcases hp with hp | ⟨t2, hr2, ha2, _⟩
          · have := h1.run.d; rw [hp.d] at this; cases this
          · obtain rfl : t2 = t := Option.some.inj (hr2.d.symm.trans h1.run.d)
            omega
      · rw [g2] at ha
        rcases h.pr with ⟨t2, hr2, ha2, _⟩ | hp
        · obtain rfl : t2 = t := Option.some.inj (hr2.d.symm.trans h1.run.d)
          omega
        · rcases hp with hp | ⟨t2, hr2, ha2, hB⟩
          · have := h1.run.d; rw [hp.d] at this; cases this
          · obtain rfl : t2 = t := Option.some.inj (hr2.d.symm.trans h1.run.d)
            rw [g6]
            omega
/-- What is told of the reading and of how one stands, behind a round at tick i. -/
def FinI (c : ScT) (n : Int) (b : List UInt8) (i : Nat) (R : List UInt8) (S : Int) : Prop := ∃ E P0 R0 S0, EndI c n b P0 R0 S0 i E ∧ R = R0 ++ rdOf E.out ∧ S = stF S0 E.out
theorem EndI.evs {i : Nat} (h : EndI c n b P0 R0 S0 i E) : (∀ v ∈ E.out, GoodEv v) ∧ (∃ l, E.out = P0 ++ l) ∧ E.out.length ≤ 9 := by
  rcases h.hd with ⟨t, h1⟩ | ⟨h1, h2⟩
  · exact ⟨h1.run.ev, h1.run.pre, by have := h1.len; omega⟩
  · exact ⟨h1.ev, h1.pre, h2⟩
theorem nl_chain (hc : NL c n) (hb : b.length ≤ 20) : ∀ (k i : Nat) (E : ET) (P0 : List EvT) (R0 : List UInt8) (S0 : Int), EndI c n b P0 R0 S0 i E → i + k ≤ 900 →
    ChainOk c (List.replicate k RL) E ∧ ∀ l, RoundsTo c (List.replicate k RL) E l → (∀ v ∈ l, GoodEv v) ∧ l.length ≤ 9 * k ∧ k ≤ l.length ∧ FinI c n b (i + k) (R0 ++ rdOf E.out ++ rdOf l) (stF (stF S0 E.out) l)
  | 0, i, E, P0, R0, S0, h, hi => ⟨trivial, fun l hl => by
    obtain rfl : l = [] := hl
    refine ⟨fun v hv => (by cases hv), Nat.le_refl _, Nat.le_refl _, E, P0, R0, S0, h, ?_, rfl⟩
    show R0 ++ rdOf E.out ++ [] = _
    rw [List.append_nil]⟩
  | k + 1, i, E, P0, R0, S0, h, hi => by
    obtain ⟨h1, h2⟩ := nl_round hc hb h (by omega)
    refine ⟨⟨h1, fun E' hT => ?_⟩, fun l hl => ?_⟩
    · have h3 := h2 E' hT
      obtain ⟨g1, ⟨l, g2⟩, g3⟩ := h3.evs
      have : E'.out.length = 1 + l.length := by rw [g2, List.length_append]; rfl
      exact ⟨by omega, (nl_chain hc hb k (i + 1) E' _ _ _ h3 (by omega)).1⟩
    · obtain ⟨E', l', hT, rfl, hl⟩ := hl
      have h3 := h2 E' hT
      obtain ⟨g1, ⟨m, g2⟩, g3⟩ := h3.evs
      have hlen : E'.out.length = 1 + m.length := by rw [g2, List.length_append]; rfl
      obtain ⟨k1, k2, k3, k4⟩ := (nl_chain hc hb k (i + 1) E' _ _ _ h3 (by omega)).2 l' hl
      refine ⟨fun v hv => ?_, by rw [List.length_append]; omega, by rw [List.length_append]; omega, ?_⟩
      · rcases List.mem_append.1 hv with hv | hv
        · exact g1 v hv
        · exact k1 v hv
      · rw [rdOf_app, stF_app, ← List.append_assoc]
        rw [show i + (k + 1) = i + 1 + k by omega]
        exact k4
/-- What a fresh engine is. -/
def E0 : ET := ⟨0, 0, 0, none, [], 0, 0, false, false, 0, 0, none, none, []⟩
def R0L (u : ByteArray) : RdT := ⟨0, true, some u, none⟩
def ev1 : EvT := ⟨1, 0, 0, 0, ⟨#[]⟩, 0, 0, 0, 0, 0, 0, 0⟩
def ev2 : EvT := ⟨2, 0, 0, 0, ⟨#[]⟩, 0, 0, 0, 0, 0, 0, 0⟩
def t0N (n : Int) : DT := ⟨0, 0, n, nev, nev, [], [], none, ⟨#[]⟩, 0, 0, 0, 0, true⟩
theorem t0_eq (hc : NL c n) : comeT c (newT c 0) 0 = t0N n := by
  have hn := hc.n
  have h1 : behT 0 n = n := by
    unfold behT addT
    rw [if_neg (by unfold nev; omega)]
    have e1 : ownT 0 = 0 := rfl
    have e2 : ownT n = n := by unfold ownT; rw [if_neg (by omega)]
    rw [e1, e2, if_neg (by unfold nev; omega)]
    omega
  unfold comeT newT
  rw [if_pos rfl, hc.o0, hc.dl]
  show ({ at_ := 0, ju := 0, un := behT 0 n, li := behT 0 nev, cu := nev, inb := [], win := [], pat := none, tx := ⟨#[]⟩, sd := 0, ld := 0, tr := 0, now := 0, lv := true } : DT) = _
  rw [h1]
  rfl
theorem mid_open (hc : NL c n) (u : ByteArray) : Mid c n u.data.toList [ev1, ev2] [] 0 (offE (opnE c (begE E0 0) true) (some u)) (t0N n) := by
  have hn := hc.n
  have e : offE (opnE c (begE E0 0) true) (some u) = { settleT c { begE E0 0 with d := some (t0N n), nx := 1, wb := [], snt := 0, rd := 0, st := some 0, out := [ev1, ev2] } (t0N n) with wb := u.data.toList, snt := 0 + u.size } := by
    show offE (openE c (begE E0 0)) (some u) = _
    unfold openE
    have e2 : comeT c (newT c (begE E0 0).clock) 0 = t0N n := t0_eq hc
    rw [e2]
    rfl
  rw [e]
  have good2 : GoodEv ev2 := ⟨rfl, (by show (2 : Int) ≠ 5; decide), (by show (2 : Int) ≠ 7; decide), (by show (2 : Int) ≠ 9; decide), Nat.zero_le _, rfl⟩
  have R : Run c n u.data.toList [ev1, ev2] [] 0 { settleT c { begE E0 0 with d := some (t0N n), nx := 1, wb := [], snt := 0, rd := 0, st := some 0, out := [ev1, ev2] } (t0N n) with wb := u.data.toList, snt := 0 + u.size } (t0N n) := by
    refine ⟨rfl, rfl, rfl, rfl, rfl, ⟨(by show (0 : Int) ≤ 0; decide), (by show (0 : Int) ≤ 0 + 0; decide)⟩, (by show (0 : Int) + 0 ≤ 1000; decide), .inl ⟨rfl, rfl, rfl⟩, rfl, rfl, rfl, Nat.zero_le _, ?_, ?_, ⟨[], rfl⟩⟩
    · show (0 : Int) + (u.data.toList.length : Nat) = (u.data.toList.length : Nat)
      omega
    · intro v hv
      have hv : v ∈ [ev1, ev2] := hv
      simp only [List.mem_cons, List.not_mem_nil, or_false] at hv
      rcases hv with rfl | rfl
      · exact good_round 0
      · exact good2
  have hrd := R.ready hc
  refine ⟨R, rfl, fun ha => (by cases ha), fun _ hw => ?_, ⟨(by show (0 : Int) ≤ 0; decide), (by show (0 : Int) ≤ 2000000000; decide)⟩, fun ha => (by cases ha), rfl, (by show 2 + 2 ≤ 9; decide)⟩
  have hw : (if readyT c (t0N n) (0 + 0) = true then false || !false else false) = true := hw
  have h1 : readyT c (t0N n) (0 + 0) = dueB n (0 + 0) := by
    have h2 := hrd
    rw [if_pos (show (t0N n).at_ = 0 from rfl)] at h2
    exact h2
  show dueB n (0 + 0) = true
  cases hq : dueB n (0 + 0) with
  | true => rfl
  | false => rw [h1, hq] at hw; cases hw
/-- The first round. -/
theorem nl_first (hc : NL c n) (hp : PrFit c.nm c.dl c.jm c.o0 c.o1) (u : ByteArray) (hu : u.size ≤ 20) : (∃ J, JOk c J ∧ RndOk c (R0L u) E0 J) ∧ ∀ E', RoundTo c (R0L u) E0 E' → EndI c n u.data.toList [ev1, ev2] [] 0 0 E' := by
  have hb : u.data.toList.length ≤ 20 := hu
  have hv := hc.ok.v
  have hm := mid_open hc u
  refine ⟨⟨JX c n u.data.toList [ev1, ev2] [] 0, jx_ok hc hb, ⟨⟨(by show (0 : Int) ≤ 0; decide), (by show (0 : Int) ≤ 0; decide), (by show (0 : Int) + 0 ≤ 1000000000000; decide)⟩, (by decide), fun _ => ⟨rfl, hp, rfl, .inl ⟨n, hc.o0⟩, ?_⟩, fun v e => ?_, fun b' k e => (by cases e), fun E4 h4 => ?_⟩⟩, fun E' hT => ?_⟩
  · have e2 : comeT c (newT c (E0.clock + (R0L u).tk)) 0 = t0N n := t0_eq hc
    rw [e2]
    have := hm.run.easy hc
    exact this
  · obtain rfl : u = v := Option.some.inj e
    exact ⟨rfl, by omega, (by show 0 ≤ 500000; decide), (by show (0 : Int) ≤ 0; decide), (by show (0 : Int) ≤ 500000; decide)⟩
  · obtain rfl : E4 = _ := h4
    refine ⟨fun v hv => ⟨t0N n, hm.run.d, hm.run.easy hc⟩, ?_⟩
    obtain ⟨q, q1, _⟩ := nl_wake hc hm
    refine ⟨.inl ⟨_, q⟩, ?_⟩
    show (wakeE c (offE (opnE c (begE E0 0) true) (some u))).k + c.v ≤ 1000000
    rw [q1]
    show 0 + c.v ≤ 1000000
    omega
  · obtain ⟨E4, h4, hT⟩ := hT
    obtain rfl : E4 = _ := h4
    exact nl_fin hc hb hm hT (by rfl) (Nat.le_refl 0) (by rfl) (fun _ => hc.n.1) (fun ha => by cases ha) (fun _ ha => by cases ha)
/-- All rounds of the law. -/
theorem nl_all (hc : NL c n) (hp : PrFit c.nm c.dl c.jm c.o0 c.o1) (u : ByteArray) (hu : u.size ≤ 20) :
    ChainOk c (R0L u :: List.replicate 60 RL) E0 ∧ ∀ l, RoundsTo c (R0L u :: List.replicate 60 RL) E0 l → ∃ rest, l = ev1 :: ev2 :: rest ∧ 1 ≤ rest.length ∧ rest.length ≤ 90000 ∧ (∀ v ∈ rest, GoodEv v) ∧
      ((c.n < u.size ∧ stF 0 rest = 4 ∧ c.n < (rdOf rest).length ∧ ∃ z, rdOf rest ++ z = u.data.toList) ∨ (u.size ≤ c.n ∧ stF 0 rest = 0 ∧ rdOf rest = u.data.toList)) := by
  have hb : u.data.toList.length ≤ 20 := hu
  obtain ⟨h1, h2⟩ := nl_first hc hp u hu
  refine ⟨⟨h1, fun E' hT => ?_⟩, fun l hl => ?_⟩
  · have h3 := h2 E' hT
    obtain ⟨g1, ⟨m, g2⟩, g3⟩ := h3.evs
    have : E'.out.length = 2 + m.length := by rw [g2, List.length_append]; rfl
    exact ⟨by omega, (nl_chain hc hb 60 0 E' _ _ _ h3 (by decide)).1⟩
  · obtain ⟨E', l', hT, rfl, hl⟩ := hl
    have h3 := h2 E' hT
    obtain ⟨g1, ⟨m, g2⟩, g3⟩ := h3.evs
    obtain ⟨k1, k2, k3, k4⟩ := (nl_chain hc hb 60 0 E' _ _ _ h3 (by decide)).2 l' hl
    have hlm : E'.out.length = 2 + m.length := by rw [g2, List.length_append]; rfl
    have erd : rdOf E'.out = rdOf m := by rw [g2]; rfl
    have est : stF 0 E'.out = stF 0 m := by rw [g2]; rfl
    rw [erd, est] at k4
    refine ⟨m ++ l', by rw [g2]; rfl, by rw [List.length_append]; omega, by rw [List.length_append]; omega, fun v hv => ?_, ?_⟩
    · rcases List.mem_append.1 hv with hv | hv
      · exact g1 v (by rw [g2]; exact List.mem_append.2 (.inr hv))
      · exact k1 v hv
    · have eR : rdOf (m ++ l') = [] ++ rdOf m ++ rdOf l' := by rw [rdOf_app]; rfl
      have eS : stF 0 (m ++ l') = stF (stF 0 m) l' := by rw [stF_app]
      rw [eR, eS]
      obtain ⟨E, P0, R0, S0, h, hR, hS⟩ := k4
      rw [hR, hS]
      have hn := hc.n
      have ovf : ∀ h : Ovf c u.data.toList P0 R0 S0 E, c.n < u.size ∧ stF S0 E.out = 4 ∧ c.n < (R0 ++ rdOf E.out).length ∧ ∃ z, R0 ++ rdOf E.out ++ z = u.data.toList := fun h => by
        refine ⟨?_, h.st, h.long, E.wb, h.rd⟩
        have h5 := congrArg List.length h.rd
        rw [List.length_append] at h5
        have h6 := h.long
        have h7 : u.size = u.data.toList.length := rfl
        omega
      rcases h.pr with ⟨t, _, _, hlt⟩ | hp
      · omega
      · rcases hp with hp | ⟨t, hr, ha, hB⟩
        · exact .inl (ovf hp)
        · rcases h.hd with ⟨t2, hd⟩ | ⟨ho, _⟩
          · obtain rfl : t = t2 := Option.some.inj (hr.d.symm.trans hd.run.d)
            right
            have hpi := hd.pi ha
            have hpp := hd.p
            have h0 : t.inb.length = 0 ∧ E.wb.length = 0 := by omega
            have e1 := List.length_eq_zero_iff.1 h0.1
            have e2 := List.length_eq_zero_iff.1 h0.2
            have hall := hr.all
            rw [e1, e2, List.append_nil, List.append_nil] at hall
            have hrd := hr.rd
            rw [e1, List.append_nil] at hrd
            refine ⟨?_, hr.st, hrd.trans hall⟩
            have h7 : u.size = u.data.toList.length := rfl
            rw [h7, ← hall]
            exact hr.wl
          · exact .inl (ovf ho)
end
end Go.Proofs.YtbhgmccaecmpjaaGreat
