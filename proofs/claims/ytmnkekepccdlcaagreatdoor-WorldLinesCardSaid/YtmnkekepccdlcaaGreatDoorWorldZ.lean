/-
  Plain law: a line of rounds as the reference reads it, words by their shape, is what the line says.
  Conditions: none; no program is named.
-/
import Derived.Test.YtmnkekepccdlcaaGreatDoorWgF
namespace Go.Proofs.YtmnkekepccdlcaaGreatDoor
set_option linter.unusedVariables false
set_option linter.unusedSimpArgs false

/-- The greatest number of a kind: s a script, i an id, n how many bytes, t ticks. -/
def topT (c : UInt8) : Int := if c = 115 then 63 else if c = 105 then 4095 else if c = 110 then 4096 else 1000000000000
/-- What a word of a kind counts, and what is wrong of it. -/
def wrongT (c : UInt8) (x : Wd) : Int × Int := if x.quoted ≠ decide (c = 113) then (0, 2) else if c = 113 then (if 256 < x.text.length then (0, 4) else (0, 0)) else numW (topT c) x.text
/-- What the words behind the first one give, one kind after another. -/
def argT (F : List UInt8) (W : List Wd) (len : Nat) : Nat → Res (Int × Int × List UInt8)
  | 0 => .ok (0, 0, [])
  | k + 1 => match argT F W len k with
    | .error e => .error e
    | .ok p => match W[k + 1]? with
      | none => .error (len, 3)
      | some x => if (wrongT (F.getD k 0) x).2 = 0 then .ok (if k = 0 then ((wrongT (F.getD k 0) x).1, p.2.1, x.text) else (p.1, (wrongT (F.getD k 0) x).1, x.text)) else .error (x.place, (wrongT (F.getD k 0) x).2)
section
variable {F : List UInt8} {W : List Wd} {len k : Nat}
theorem arg_err {e : Nat × Int} (h : argT F W len k = .error e) : ∀ j, argT F W len (k + j) = .error e
  | 0 => h
  | j + 1 => by
    show (match argT F W len (k + j) with | .error e => _ | .ok p => _) = _
    rw [arg_err h j]
theorem arg_to {e : Nat × Int} {n : Nat} (h : argT F W len k = .error e) (hk : k ≤ n) : argT F W len n = .error e := by
  have := arg_err h (n - k)
  rwa [Nat.add_sub_of_le hk] at this
theorem arg_end {p : Int × Int × List UInt8} (h : argT F W len k = .ok p) (hw : W[k + 1]? = none) : argT F W len (k + 1) = .error (len, 3) := by
  show (match argT F W len k with | .error e => _ | .ok p => _) = _
  rw [h]
  simp only [hw]
theorem arg_bad {p : Int × Int × List UInt8} {x : Wd} (h : argT F W len k = .ok p) (hw : W[k + 1]? = some x) (hx : (wrongT (F.getD k 0) x).2 ≠ 0) : argT F W len (k + 1) = .error (x.place, (wrongT (F.getD k 0) x).2) := by
  show (match argT F W len k with | .error e => _ | .ok p => _) = _
  rw [h]
  simp only [hw]
  rw [if_neg hx]
theorem arg_ok {p : Int × Int × List UInt8} {x : Wd} (h : argT F W len k = .ok p) (hw : W[k + 1]? = some x) (hx : (wrongT (F.getD k 0) x).2 = 0) : argT F W len (k + 1) = .ok (if k = 0 then ((wrongT (F.getD k 0) x).1, p.2.1, x.text) else (p.1, (wrongT (F.getD k 0) x).1, x.text)) := by
  show (match argT F W len k with | .error e => _ | .ok p => _) = _
  rw [h]
  simp only [hw]
  rw [if_pos hx]
end
/-- The word at a place, of a kind; then what follows. -/
def nextT {β : Type} (W : List Wd) (len i : Nat) (c : UInt8) (G : Int → List UInt8 → Res β) : Res β := match W[i]? with
  | none => .error (len, 3)
  | some x => if (wrongT c x).2 = 0 then G (wrongT c x).1 x.text else .error (x.place, (wrongT c x).2)
/-- One number. -/
theorem step_num {β : Type} (W : List Wd) (len i : Nat) (c : UInt8) (hc : c ≠ 113) (G : Int → List UInt8 → Res β) (H : Int → Res β) (hG : ∀ n t, G n t = H n) :
    nextT W len i c G = (fNum W len i (topT c)).bind H := by
  unfold fNum nextT
  cases W[i]? with
  | none => rfl
  | some x =>
    have hd : decide (c = 113) = false := decide_eq_false hc
    simp only
    unfold wrongT
    rw [hd, if_neg hc]
    cases hq : x.quoted
    · simp only [ne_eq, not_true_eq_false, if_false, Bool.false_eq_true]
      split
      · exact hG _ _
      · rfl
    · simp only [ne_eq, Bool.true_eq_false, not_false_eq_true, if_true]
      rfl
theorem step_q {β : Type} (W : List Wd) (len i : Nat) (G : Int → List UInt8 → Res β) (H : List UInt8 → Res β) (hG : ∀ n t, G n t = H t) :
    nextT W len i 113 G = (fTxt W len i).bind H := by
  unfold fTxt nextT
  cases W[i]? with
  | none => rfl
  | some x =>
    simp only
    unfold wrongT
    cases hq : x.quoted
    · rfl
    · by_cases h : 256 < x.text.length
      · simp [h]; rfl
      · simp [h]; exact hG _ _
theorem arg_1 {β : Type} (W : List Wd) (len : Nat) (c : UInt8) (hc : c ≠ 113) (H : Int → Res β) : (argT [c] W len 1).bind (fun p => H p.1) = (fNum W len 1 (topT c)).bind H := by
  rw [← step_num W len 1 c hc (fun n _ => H n) H (fun _ _ => rfl)]
  unfold nextT
  cases hx : W[1]? with
  | none => rw [arg_end (F := [c]) (k := 0) rfl hx]; rfl
  | some x =>
    simp only
    by_cases h : (wrongT c x).2 = 0
    · rw [if_pos h, arg_ok (F := [c]) (k := 0) rfl hx h]; rfl
    · rw [if_neg h, arg_bad (F := [c]) (k := 0) rfl hx h]; rfl
theorem arg_2 {β : Type} (W : List Wd) (len : Nat) (a c : UInt8) (ha : a ≠ 113) (H : Int → Int → List UInt8 → Res β) : (argT [a, c] W len 2).bind (fun p => H p.1 p.2.1 p.2.2) = (fNum W len 1 (topT a)).bind fun n => nextT W len 2 c (H n) := by
  rw [← step_num W len 1 a ha (fun n _ => nextT W len 2 c (H n)) _ (fun _ _ => rfl)]
  unfold nextT
  cases hx : W[1]? with
  | none => rw [arg_to (arg_end (F := [a, c]) (k := 0) rfl hx) (by decide : 1 ≤ 2)]; rfl
  | some x =>
    simp only
    by_cases h : (wrongT a x).2 = 0
    · rw [if_pos h]
      have h1 := arg_ok (F := [a, c]) (k := 0) (len := len) rfl hx h
      cases hy : W[2]? with
      | none => rw [arg_end h1 hy]; rfl
      | some y =>
        simp only
        by_cases h2 : (wrongT c y).2 = 0
        · rw [if_pos h2, arg_ok h1 hy h2]; rfl
        · rw [if_neg h2, arg_bad h1 hy h2]; rfl
    · rw [if_neg h, arg_to (arg_bad (F := [a, c]) (k := 0) (len := len) rfl hx h) (by decide : 1 ≤ 2)]; rfl
/-- The shape of a word. -/
def shapeT (t : List UInt8) : Option (List UInt8) :=
  if t = kTick then some [116] else if t = kOpen then some [115] else if t = kOffer then some [105, 113] else if t = kClose then some [105, 113] else if t = kRead then some [105] else if t = kWrite then some [105, 110] else if t = kBoth then some [105, 110] else if t = kDrain then some [116] else if t = kAbort then some [] else none
/-- What the words do to the rounds. -/
def doT (t : List UInt8) (p : Int × Int × List UInt8) (rs : List Rd) : List Rd :=
  if t = kTick then rs ++ [{ rd0 with ticks := p.1 }]
  else if t = kOpen then upd rs fun r => { r with opens := r.opens ++ [p.1] }
  else if t = kOffer ∨ t = kClose then upd rs fun r => { r with offers := r.offers ++ [⟨p.1, ⟨p.2.2.toArray⟩, decide (t = kClose)⟩] }
  else if t = kRead then upd rs fun r => { r with reports := r.reports ++ [⟨p.1, true, false, 0⟩] }
  else if t = kWrite ∨ t = kBoth then upd rs fun r => { r with reports := r.reports ++ [⟨p.1, decide (t = kBoth), true, p.2.1⟩] }
  else if t = kDrain then upd rs fun r => { r with drain := p.1 + 1 }
  else upd rs fun r => { r with abort := true }
theorem say_ref {rs : List Rd} {W : List Wd} {len : Nat} {x : Wd} {F : List UInt8} {R : List Wd} (hW : W = x :: R) (h0 : placeT rs x = 0) (hF : shapeT x.text = some F) :
    sayT rs W len = (argT F W len F.length).bind fun p => (fEnd W (F.length + 1)).bind fun _ => .ok (doT x.text p rs) := by
  have e1 : W.headD ⟨[], false, 0⟩ = x := by rw [hW]; rfl
  unfold sayT
  rw [e1]
  simp only [h0, ne_eq, not_true_eq_false, if_false]
  clear e1 hW h0
  obtain ⟨t, q, pl⟩ := x
  simp only at hF ⊢
  unfold shapeT at hF
  by_cases h1 : t = kTick
  · subst h1
    obtain rfl : [116] = F := Option.some.inj hF
    exact (arg_1 W len 116 (by decide) fun n => (fEnd W 2).bind fun _ => .ok (doT kTick (n, 0, []) rs)).symm
  rw [if_neg h1] at hF ⊢
  by_cases h2 : t = kOpen
  · subst h2
    obtain rfl : [115] = F := Option.some.inj hF
    exact (arg_1 W len 115 (by decide) fun n => (fEnd W 2).bind fun _ => .ok (doT kOpen (n, 0, []) rs)).symm
  rw [if_neg h2] at hF ⊢
  by_cases h3 : t = kOffer
  · subst h3
    obtain rfl : [105, 113] = F := Option.some.inj hF
    refine Eq.trans ?_ (arg_2 W len 105 113 (by decide) fun n k s => (fEnd W 3).bind fun _ => .ok (doT kOffer (n, k, s) rs)).symm
    rw [if_pos (.inl rfl)]
    congr 1
    funext n
    exact (step_q W len 2 (fun k s => (fEnd W 3).bind fun _ => .ok (doT kOffer (n, k, s) rs)) (fun s => (fEnd W 3).bind fun _ => .ok (doT kOffer (n, 0, s) rs)) fun _ _ => rfl).symm
  rw [if_neg h3] at hF
  by_cases h4 : t = kClose
  · subst h4
    obtain rfl : [105, 113] = F := Option.some.inj hF
    refine Eq.trans ?_ (arg_2 W len 105 113 (by decide) fun n k s => (fEnd W 3).bind fun _ => .ok (doT kClose (n, k, s) rs)).symm
    rw [if_pos (.inr rfl)]
    congr 1
    funext n
    exact (step_q W len 2 (fun k s => (fEnd W 3).bind fun _ => .ok (doT kClose (n, k, s) rs)) (fun s => (fEnd W 3).bind fun _ => .ok (doT kClose (n, 0, s) rs)) fun _ _ => rfl).symm
  rw [if_neg h4] at hF
  rw [if_neg (by rintro (h | h) <;> contradiction)]
  by_cases h5 : t = kRead
  · subst h5
    obtain rfl : [105] = F := Option.some.inj hF
    exact (arg_1 W len 105 (by decide) fun n => (fEnd W 2).bind fun _ => .ok (doT kRead (n, 0, []) rs)).symm
  rw [if_neg h5] at hF ⊢
  by_cases h6 : t = kWrite
  · subst h6
    obtain rfl : [105, 110] = F := Option.some.inj hF
    refine Eq.trans ?_ (arg_2 W len 105 110 (by decide) fun n k s => (fEnd W 3).bind fun _ => .ok (doT kWrite (n, k, s) rs)).symm
    rw [if_pos (.inl rfl)]
    congr 1
    funext n
    exact (step_num W len 2 110 (by decide) (fun k s => (fEnd W 3).bind fun _ => .ok (doT kWrite (n, k, s) rs)) (fun k => (fEnd W 3).bind fun _ => .ok (doT kWrite (n, k, []) rs)) fun _ _ => rfl).symm
  rw [if_neg h6] at hF
  by_cases h7 : t = kBoth
  · subst h7
    obtain rfl : [105, 110] = F := Option.some.inj hF
    refine Eq.trans ?_ (arg_2 W len 105 110 (by decide) fun n k s => (fEnd W 3).bind fun _ => .ok (doT kBoth (n, k, s) rs)).symm
    rw [if_pos (.inr rfl)]
    congr 1
    funext n
    exact (step_num W len 2 110 (by decide) (fun k s => (fEnd W 3).bind fun _ => .ok (doT kBoth (n, k, s) rs)) (fun k => (fEnd W 3).bind fun _ => .ok (doT kBoth (n, k, []) rs)) fun _ _ => rfl).symm
  rw [if_neg h7] at hF
  rw [if_neg (by rintro (h | h) <;> contradiction)]
  by_cases h8 : t = kDrain
  · subst h8
    obtain rfl : [116] = F := Option.some.inj hF
    exact (arg_1 W len 116 (by decide) fun n => (fEnd W 2).bind fun _ => .ok (doT kDrain (n, 0, []) rs)).symm
  rw [if_neg h8] at hF ⊢
  by_cases h9 : t = kAbort
  · subst h9
    obtain rfl : [] = F := Option.some.inj hF
    rfl
  · rw [if_neg h9] at hF
    cases hF
end Go.Proofs.YtmnkekepccdlcaaGreatDoor
