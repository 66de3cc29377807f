/-
  Plain law: what the reader's steps come to is what the plain word of a line says.
  Conditions: none; no program is named.
-/
import Derived.Test.YtmnkekepccdlcaaGreatDoorWorldD
namespace Go.Proofs.YtmnkekepccdlcaaGreatDoor
set_option linter.unusedVariables false
set_option linter.unusedSimpArgs false
open Go.RowKit

/-- A value that is read, or what is wrong, as the reader holds it. -/
def Got {α : Type} (X : Res α) (v : α) (s : Rs) (i cl : Nat) : Prop := match X with
  | .ok a => v = a ∧ s = ⟨i, cl, 0⟩
  | .error (c, e) => e ≠ 0 ∧ s.col = c + 1 ∧ s.bad = e
theorem got_num (W : List Wd) (len i cl : Nat) (most : Int) : Got (fNum W len i most) (numberS W len ⟨i, cl, 0⟩ most).1 (numberS W len ⟨i, cl, 0⟩ most).2 (i + 1) cl := by
  have := numberS_spec W len i cl most
  unfold Got
  cases h : fNum W len i most with
  | ok n => rw [h] at this; simp only at this ⊢; rw [this]; exact ⟨rfl, rfl⟩
  | error p => obtain ⟨c, e⟩ := p; rw [h] at this; exact this
theorem got_offer (W : List Wd) (len cl : Nat) (eof : Bool) : Got ((fNum W len 1 4095).bind fun n => (fTxt W len 2).bind fun t => .ok (⟨n, ⟨t.toArray⟩, eof⟩ : Off)) (offerS W len ⟨1, cl, 0⟩ eof).1 (offerS W len ⟨1, cl, 0⟩ eof).2 3 cl := by
  have := offerS_spec W len 1 cl eof
  unfold Got
  cases h : fNum W len 1 4095 with
  | error p => obtain ⟨c, e⟩ := p; rw [h] at this; exact this
  | ok n =>
    rw [h] at this
    cases h2 : fTxt W len 2 with
    | error p => obtain ⟨c, e⟩ := p; rw [h2] at this; exact this
    | ok t =>
      rw [h2] at this
      simp only [Except.bind] at this ⊢
      rw [this]
      exact ⟨rfl, rfl⟩
theorem got_end {α β : Type} {X : Res α} {v : α} {s : Rs} {i cl : Nat} (W : List Wd) (h : Got X v s i cl) (f : α → β) : Got (X.bind fun a => (fEnd W i).bind fun _ => .ok (f a)) (f v) (endS W s) i cl := by
  cases X with
  | error p =>
    obtain ⟨c, e⟩ := p
    obtain ⟨h1, h2, h3⟩ := h
    have hb : s.bad ≠ 0 := by rw [h3]; exact h1
    rw [endS_hurt hb]
    exact ⟨h1, h2, h3⟩
  | ok a =>
    obtain ⟨rfl, rfl⟩ := h
    have := endS_spec W i cl
    show Got ((fEnd W i).bind fun _ => .ok (f v)) (f v) (endS W ⟨i, cl, 0⟩) i cl
    cases he : fEnd W i with
    | ok u => rw [he] at this; exact ⟨rfl, this⟩
    | error p => obtain ⟨c, e⟩ := p; rw [he] at this; exact this
theorem got_two {α : Type} {X : Res α} {v : α} {s : Rs} {i cl : Nat} (W : List Wd) (len : Nat) (most : Int) (h : Got X v s i cl) : Got (X.bind fun a => (fNum W len i most).bind fun b => .ok (a, b)) (v, (numberS W len s most).1) (numberS W len s most).2 (i + 1) cl := by
  cases X with
  | error p =>
    obtain ⟨c, e⟩ := p
    obtain ⟨h1, h2, h3⟩ := h
    have hb : s.bad ≠ 0 := by rw [h3]; exact h1
    have := numberS_hurt (W := W) (len := len) (most := most) hb
    exact ⟨h1, this.1.trans h2, this.2.trans h3⟩
  | ok a =>
    obtain ⟨rfl, rfl⟩ := h
    have := got_num W len i cl most
    show Got ((fNum W len i most).bind fun b => .ok (v, b)) _ _ _ _
    cases hn : fNum W len i most with
    | ok n => rw [hn] at this; obtain ⟨e1, e2⟩ := this; exact ⟨by rw [e1], e2⟩
    | error p => obtain ⟨c, e⟩ := p; rw [hn] at this; exact this
theorem got_cast {α : Type} {X Y : Res α} {v u : α} {s t : Rs} {i cl : Nat} (h : Got X v s i cl) (h1 : X = Y) (h2 : v = u) (h3 : s = t) : Got Y u t i cl := by subst h1 h2 h3; exact h

section
variable (W Wr : List Wd) (rs : List Rd) (len cl px : Nat)
theorem say_of (k : List UInt8) (hW : W = ⟨k, false, px⟩ :: Wr) (hp : placeT rs ⟨k, false, px⟩ = 0) : W.headD ⟨[], false, 0⟩ = ⟨k, false, px⟩ ∧ ¬ placeT rs (W.headD ⟨[], false, 0⟩) ≠ 0 := by
  subst hW
  exact ⟨rfl, fun h => h hp⟩
theorem say_tick (hW : W = ⟨kTick, false, px⟩ :: Wr) (hp : placeT rs ⟨kTick, false, px⟩ = 0) : Got (sayT rs W len) (rs ++ [{ rd0 with ticks := (numberS W len ⟨1, cl, 0⟩ 1000000000000).1 }]) (endS W (numberS W len ⟨1, cl, 0⟩ 1000000000000).2) 2 cl := by
  obtain ⟨h1, h2⟩ := say_of W Wr rs px kTick hW hp
  refine got_cast (got_end W (got_num W len 1 cl 1000000000000) (fun n => rs ++ [{ rd0 with ticks := n }])) ?_ rfl rfl
  unfold sayT
  simp only
  rw [if_neg h2, h1, if_pos rfl]
theorem say_open (hW : W = ⟨kOpen, false, px⟩ :: Wr) (hp : placeT rs ⟨kOpen, false, px⟩ = 0) : Got (sayT rs W len) (upd rs fun r => { r with opens := r.opens ++ [(numberS W len ⟨1, cl, 0⟩ 63).1] }) (endS W (numberS W len ⟨1, cl, 0⟩ 63).2) 2 cl := by
  obtain ⟨h1, h2⟩ := say_of W Wr rs px kOpen hW hp
  refine got_cast (got_end W (got_num W len 1 cl 63) (fun n => upd rs fun r => { r with opens := r.opens ++ [n] })) ?_ rfl rfl
  unfold sayT
  simp only
  rw [if_neg h2, h1, if_neg (show ¬ kOpen = kTick by decide), if_pos rfl]
theorem say_offer (hW : W = ⟨kOffer, false, px⟩ :: Wr) (hp : placeT rs ⟨kOffer, false, px⟩ = 0) : Got (sayT rs W len) (upd rs fun r => { r with offers := r.offers ++ [(offerS W len ⟨1, cl, 0⟩ false).1] }) (endS W (offerS W len ⟨1, cl, 0⟩ false).2) 3 cl := by
  obtain ⟨h1, h2⟩ := say_of W Wr rs px kOffer hW hp
  refine got_cast (got_end W (got_offer W len cl false) (fun o => upd rs fun r => { r with offers := r.offers ++ [o] })) ?_ rfl rfl
  unfold sayT
  simp only
  rw [if_neg h2, h1, if_neg (show ¬ kOffer = kTick by decide), if_neg (show ¬ kOffer = kOpen by decide), if_pos (.inl rfl)]
  have hd : decide (kOffer = kClose) = false := by decide
  cases fNum W len 1 4095 with
  | error p => rfl
  | ok n =>
    cases fTxt W len 2 with
    | error p => rfl
    | ok t => simp only [Except.bind, hd]
theorem say_close (hW : W = ⟨kClose, false, px⟩ :: Wr) (hp : placeT rs ⟨kClose, false, px⟩ = 0) : Got (sayT rs W len) (upd rs fun r => { r with offers := r.offers ++ [(offerS W len ⟨1, cl, 0⟩ true).1] }) (endS W (offerS W len ⟨1, cl, 0⟩ true).2) 3 cl := by
  obtain ⟨h1, h2⟩ := say_of W Wr rs px kClose hW hp
  refine got_cast (got_end W (got_offer W len cl true) (fun o => upd rs fun r => { r with offers := r.offers ++ [o] })) ?_ rfl rfl
  unfold sayT
  simp only
  rw [if_neg h2, h1, if_neg (show ¬ kClose = kTick by decide), if_neg (show ¬ kClose = kOpen by decide), if_pos (.inr rfl)]
  have hd : decide (kClose = kClose) = true := by decide
  cases fNum W len 1 4095 with
  | error p => rfl
  | ok n =>
    cases fTxt W len 2 with
    | error p => rfl
    | ok t => simp [Except.bind]
theorem say_read (hW : W = ⟨kRead, false, px⟩ :: Wr) (hp : placeT rs ⟨kRead, false, px⟩ = 0) : Got (sayT rs W len) (upd rs fun r => { r with reports := r.reports ++ [(reportS W len ⟨1, cl, 0⟩ kRead).1] }) (endS W (reportS W len ⟨1, cl, 0⟩ kRead).2) 2 cl := by
  obtain ⟨h1, h2⟩ := say_of W Wr rs px kRead hW hp
  have hr : reportS W len ⟨1, cl, 0⟩ kRead = (⟨(numberS W len ⟨1, cl, 0⟩ 4095).1, true, false, 0⟩, (numberS W len ⟨1, cl, 0⟩ 4095).2) := by unfold reportS; rw [if_pos rfl]
  refine got_cast (got_end W (got_num W len 1 cl 4095) (fun n => upd rs fun r => { r with reports := r.reports ++ [⟨n, true, false, 0⟩] })) ?_ (by rw [hr]) (by rw [hr])
  unfold sayT
  simp only
  rw [if_neg h2, h1, if_neg (show ¬ kRead = kTick by decide), if_neg (show ¬ kRead = kOpen by decide), if_neg (show ¬ (kRead = kOffer ∨ kRead = kClose) by decide), if_pos rfl]
theorem say_rep (k : List UInt8) (hk : k = kWrite ∨ k = kBoth) (hW : W = ⟨k, false, px⟩ :: Wr) (hp : placeT rs ⟨k, false, px⟩ = 0) : Got (sayT rs W len) (upd rs fun r => { r with reports := r.reports ++ [(reportS W len ⟨1, cl, 0⟩ k).1] }) (endS W (reportS W len ⟨1, cl, 0⟩ k).2) 3 cl := by
  obtain ⟨h1, h2⟩ := say_of W Wr rs px k hW hp
  have hr : reportS W len ⟨1, cl, 0⟩ k = (⟨(numberS W len ⟨1, cl, 0⟩ 4095).1, decide (k = kBoth), true, (numberS W len (numberS W len ⟨1, cl, 0⟩ 4095).2 4096).1⟩, (numberS W len (numberS W len ⟨1, cl, 0⟩ 4095).2 4096).2) := by
    unfold reportS
    rcases hk with rfl | rfl
    · rw [if_neg (show ¬ kWrite = kRead by decide)]; rfl
    · rw [if_neg (show ¬ kBoth = kRead by decide)]; rfl
  refine got_cast (got_end W (got_two W len 4096 (got_num W len 1 cl 4095)) (fun p => upd rs fun r => { r with reports := r.reports ++ [⟨p.1, decide (k = kBoth), true, p.2⟩] })) ?_ (by rw [hr]) (by rw [hr])
  have g : ¬ k = kTick ∧ ¬ k = kOpen ∧ ¬ (k = kOffer ∨ k = kClose) ∧ ¬ k = kRead := by rcases hk with rfl | rfl <;> decide
  unfold sayT
  simp only
  rw [if_neg h2, h1, if_neg g.1, if_neg g.2.1, if_neg g.2.2.1, if_neg g.2.2.2, if_pos hk]
  cases fNum W len 1 4095 with
  | error p => rfl
  | ok n =>
    simp only [Except.bind]
    cases fNum W len (1 + 1) 4096 with
    | error p => rfl
    | ok t => rfl
theorem say_drain (hW : W = ⟨kDrain, false, px⟩ :: Wr) (hp : placeT rs ⟨kDrain, false, px⟩ = 0) : Got (sayT rs W len) (upd rs fun r => { r with drain := (numberS W len ⟨1, cl, 0⟩ 1000000000000).1 + 1 }) (endS W (numberS W len ⟨1, cl, 0⟩ 1000000000000).2) 2 cl := by
  obtain ⟨h1, h2⟩ := say_of W Wr rs px kDrain hW hp
  refine got_cast (got_end W (got_num W len 1 cl 1000000000000) (fun n => upd rs fun r => { r with drain := n + 1 })) ?_ rfl rfl
  unfold sayT
  simp only
  rw [if_neg h2, h1, if_neg (show ¬ kDrain = kTick by decide), if_neg (show ¬ kDrain = kOpen by decide), if_neg (show ¬ (kDrain = kOffer ∨ kDrain = kClose) by decide), if_neg (show ¬ kDrain = kRead by decide), if_neg (show ¬ (kDrain = kWrite ∨ kDrain = kBoth) by decide), if_pos rfl]
theorem say_abort (hW : W = ⟨kAbort, false, px⟩ :: Wr) (hp : placeT rs ⟨kAbort, false, px⟩ = 0) : Got (sayT rs W len) (upd rs fun r => { r with abort := true }) (endS W ⟨1, cl, 0⟩) 1 cl := by
  obtain ⟨h1, h2⟩ := say_of W Wr rs px kAbort hW hp
  have h0 : Got (.ok () : Res Unit) () ⟨1, cl, 0⟩ 1 cl := ⟨rfl, rfl⟩
  refine got_cast (got_end W h0 (fun _ => upd rs fun r => { r with abort := true })) ?_ rfl rfl
  unfold sayT
  simp only
  rw [if_neg h2, h1, if_neg (show ¬ kAbort = kTick by decide), if_neg (show ¬ kAbort = kOpen by decide), if_neg (show ¬ (kAbort = kOffer ∨ kAbort = kClose) by decide), if_neg (show ¬ kAbort = kRead by decide), if_neg (show ¬ (kAbort = kWrite ∨ kAbort = kBoth) by decide), if_neg (show ¬ kAbort = kDrain by decide)]
  rfl
theorem place_kind (x : Wd) (h : placeT rs x = 0) : x.quoted = false ∧ x.text ∈ kWords ∧ (x.text ≠ kTick → rs ≠ []) := by
  unfold placeT at h
  split at h
  · cases h
  · rename_i h1
    have hq : x.quoted = false := by
      cases hx : x.quoted
      · rfl
      · exact absurd (.inl hx) h1
    have hm : x.text ∈ kWords := by
      by_cases hm : x.text ∈ kWords
      · exact hm
      · exact absurd (.inr hm) h1
    refine ⟨hq, hm, fun hne e => ?_⟩
    split at h
    · cases h
    · split at h
      · cases h
      · rename_i h3
        exact h3 ⟨hne, by rw [e]; rfl⟩
end
end Go.Proofs.YtmnkekepccdlcaaGreatDoor
