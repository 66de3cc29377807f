/-
  What a line of rounds does: all kinds together.
  Conditions: the reader's block is known whole; its rounds lie in a row; the line's words lie in a row; the error of range stands in its variable.
-/
import Derived.Test.YtmnkekepccdlcaaGreatDoorWorldF
import Derived.Test.YtmnkekepccdlcaaGreatDoorWgF
import Derived.Test.YtmnkekepccdlcaaGreatDoorWorldEBad
import Derived.Test.YtmnkekepccdlcaaGreatDoorWorldETick
import Derived.Test.YtmnkekepccdlcaaGreatDoorWorldEOpen
import Derived.Test.YtmnkekepccdlcaaGreatDoorWorldEOffer
import Derived.Test.YtmnkekepccdlcaaGreatDoorWorldEClose
import Derived.Test.YtmnkekepccdlcaaGreatDoorWorldERead
import Derived.Test.YtmnkekepccdlcaaGreatDoorWorldEWrite
import Derived.Test.YtmnkekepccdlcaaGreatDoorWorldEBoth
import Derived.Test.YtmnkekepccdlcaaGreatDoorWorldEDrain
import Derived.Test.YtmnkekepccdlcaaGreatDoorWorldEAbort
namespace Go.Proofs.YtmnkekepccdlcaaGreatDoor
set_option linter.unusedVariables false
set_option linter.unusedSimpArgs false
open Go.RowKit

/-- Rounds between two lines. -/
def Stt (B : Nat) (w : World) (ao : Option Addr) (cap : Nat) (l : List (Hd × Rd)) : Prop :=
  (l = [] ∧ Rnds B w ao cap []) ∨ ∃ l0 h r g B1, l = l0 ++ [(h, r)] ∧ ao = some ⟨g, 0, none⟩ ∧ Live B B1 w (some ⟨g, 0, none⟩) cap l0 (rC h r) h r
theorem Stt.rnds {B cap : Nat} {w : World} {ao : Option Addr} {l : List (Hd × Rd)} (h : Stt B w ao cap l) : Rnds B w ao cap l := by
  rcases h with ⟨rfl, h⟩ | ⟨l0, h, r, g, B1, rfl, rfl, h2⟩
  · exact h
  · exact h2.rnds rfl
theorem Stt.later {B cap : Nat} {w w' : World} {ao : Option Addr} {l : List (Hd × Rd)} (h : Stt B w ao cap l) (hb : Below w.heap.size w w') : Stt B w' ao cap l := by
  rcases h with ⟨rfl, h⟩ | ⟨l0, h, r, g, B1, rfl, rfl, h2⟩
  · exact .inl ⟨rfl, h.later hb⟩
  · exact .inr ⟨l0, h, r, g, B1, rfl, rfl, h2.later hb⟩
theorem Stt.off {B cap b : Nat} {w w' : World} {ao : Option Addr} {l : List (Hd × Rd)} {cs : Array Value} (h : Stt B w ao cap l) (hb : Blk w b 86 cs) (hg : w.grownBy w' (some b)) : Stt B w' ao cap l := by
  rcases h with ⟨rfl, h⟩ | ⟨l0, h, r, g, B1, rfl, rfl, h2⟩
  · exact .inl ⟨rfl, h.off hb hg (by decide) (by decide) (by decide) (by decide)⟩
  · exact .inr ⟨l0, h, r, g, B1, rfl, rfl, h2.off hb hg (by decide) (by decide) (by decide) (by decide)⟩
/-- What a line leaves. -/
def SaysPost (B b len wcap K : Nat) (wo : Option Addr) (W : List Wd) (X : Res (List Rd)) (w' : World) : Prop := match X with
  | .ok rs => Sml (K + 1) rs ∧ ∃ ao cap l nx cl, l.map Prod.snd = rs ∧ Rdr w' b (.slice ao l.length cap) (.slice wo W.length wcap) len ⟨nx, cl, 0⟩ ∧ Stt B w' ao cap l
  | .error (c, e) => e ≠ 0 ∧ ∃ v nx, Rdr w' b v (.slice wo W.length wcap) len ⟨nx, c + 1, e⟩
theorem says_done {B b len wcap K i cl cap : Nat} {wo ao : Option Addr} {W : List Wd} {X : Res (List Rd)} {V : List Rd} {S : Rs} {l : List (Hd × Rd)} {w' : World} (G : Got X V S i cl) (hR : Rdr w' b (.slice ao l.length cap) (.slice wo W.length wcap) len S) (hS : Stt B w' ao cap l) (hV : l.map Prod.snd = V) (hK : Sml (K + 1) V) :
    SaysPost B b len wcap K wo W X w' := by
  cases X with
  | ok rs =>
    obtain ⟨rfl, rfl⟩ := G
    exact ⟨hK, ao, cap, l, i, cl, hV, hR, hS⟩
  | error p =>
    obtain ⟨c, e⟩ := p
    obtain ⟨h1, h2, h3⟩ := G
    refine ⟨h1, .slice ao l.length cap, S.next, ?_⟩
    obtain ⟨sn, sc, sb⟩ := S
    simp only at h2 h3
    subst h2 h3
    exact hR
theorem upd_last (a : List Rd) (r : Rd) (f : Rd → Rd) : upd (a ++ [r]) f = a ++ [f r] := by unfold upd; simp
theorem rSays (W : List Wd) (wo ao : Option Addr) (wcap B B0 b len nx cl cap K : Nat) (hW0 : W ≠ []) (l : List (Hd × Rd)) (w : World) (hrd : Rdr w b (.slice ao l.length cap) (.slice wo W.length wcap) len ⟨nx, cl, 0⟩) (hL : Stt B w ao cap l) (hW : Lin B0 w wo wcap W len) (hB : B ≤ b) (hG : 5 < B)
    (hK : Sml K (l.map Prod.snd)) (hK2 : K ≤ 100000) (hr0 : RangeV w) :
    Calls Tryz.prog 57 #[.pointer (some ⟨b, 0, none⟩)] w fun e w' => e = .returned (.tuple #[]) ∧ Stp B w w' ∧ SaysPost B b len wcap K wo W (sayT (l.map Prod.snd) W len) w' := by
  obtain ⟨⟨tx, qx, px⟩, Wr, hW1⟩ : ∃ x Wr, W = x :: Wr := by
    cases W with
    | nil => exact absurd rfl hW0
    | cons x Wr => exact ⟨x, Wr, rfl⟩
  have hn : l.length ≤ 100000 := by have := hK.1; rw [List.length_map] at this; omega
  by_cases hp : placeT (l.map Prod.snd) ⟨tx, qx, px⟩ = 0
  · obtain ⟨hq, hm, hne⟩ := place_kind (l.map Prod.snd) ⟨tx, qx, px⟩ hp
    simp only at hq hm hne
    subst hq
    by_cases ht : tx = kTick
    · subst ht
      refine (saysTick W wo wcap B B0 b len px nx cl Wr hW1 ao cap l w hrd hL.rnds hW hB hG hn hr0 hp).mono ?_
      rintro e w' ⟨rfl, ts, g, cap', B1, hR, hL'⟩
      refine ⟨rfl, ts, says_done (ao := some ⟨g, 0, none⟩) (cap := cap') (l := l ++ [(hd0, { rd0 with ticks := (numberS W len ⟨1, cl, 0⟩ 1000000000000).1 })]) (say_tick W Wr _ len cl px hW1 hp) ?_ (.inr ⟨l, hd0, _, g, B1, rfl, rfl, hL'⟩) (by simp) (sml_tick hK)⟩
      rw [List.length_append]
      exact hR
    · have hl : l ≠ [] := fun e => hne ht (by rw [e]; rfl)
      rcases hL with ⟨e, _⟩ | ⟨l0, h, r, g, B1, rfl, rfl, hL⟩
      · exact absurd e hl
      · have hn0 : l0.length ≤ 100000 := by rw [List.length_append] at hn; omega
        have hrr := hK.2 r (by simp)
        have hrd' : Rdr w b (.slice (some ⟨g, 0, none⟩) (l0.length + 1) cap) (.slice wo W.length wcap) len ⟨nx, cl, 0⟩ := by rw [List.length_append] at hrd; exact hrd
        have hm2 : (l0 ++ [(h, r)]).map Prod.snd = l0.map Prod.snd ++ [r] := by simp
        have key : ∀ (w' : World) (h' : Hd) (r' : Rd) (S : Rs) (i : Nat) (f : Rd → Rd), f r = r' → Got (sayT ((l0 ++ [(h, r)]).map Prod.snd) W len) (upd ((l0 ++ [(h, r)]).map Prod.snd) f) S i cl → Rdr w' b (.slice (some ⟨g, 0, none⟩) (l0.length + 1) cap) (.slice wo W.length wcap) len S → Live B B1 w' (some ⟨g, 0, none⟩) cap l0 (rC h' r') h' r' →
            r'.opens.length ≤ r.opens.length + 1 → r'.offers.length ≤ r.offers.length + 1 → r'.reports.length ≤ r.reports.length + 1 → SaysPost B b len wcap K wo W (sayT ((l0 ++ [(h, r)]).map Prod.snd) W len) w' := by
          intro w' h' r' S i f hf G hR hL' q1 q2 q3
          have hu : upd ((l0 ++ [(h, r)]).map Prod.snd) f = l0.map Prod.snd ++ [r'] := by rw [hm2, upd_last, hf]
          rw [hu] at G
          refine says_done (ao := some ⟨g, 0, none⟩) (cap := cap) (l := l0 ++ [(h', r')]) G ?_ (.inr ⟨l0, h', r', g, B1, rfl, rfl, hL'⟩) (by simp) ?_
          · rw [List.length_append]; exact hR
          · rw [hm2] at hK
            exact sml_last hK q1 q2 q3
        simp only [kWords, List.mem_cons, List.not_mem_nil, or_false] at hm
        rcases hm with rfl | rfl | rfl | rfl | rfl | rfl | rfl | rfl | rfl
        · exact absurd rfl ht
        · refine (saysOpen W wo wcap B B0 B1 b g len px nx cl Wr hW1 cap l0 h r w hrd' hL hW hB hG hn0 hr0 hp (by omega)).mono ?_
          rintro e w' ⟨rfl, ts, hR, h', hL'⟩
          exact ⟨rfl, ts, key w' h' _ _ 2 _ rfl (say_open W Wr _ len cl px hW1 hp) hR hL' (by simp) (by simp) (by simp)⟩
        · refine (saysOffer W wo wcap B B0 B1 b g len px nx cl Wr hW1 cap l0 h r w hrd' hL hW hB hG hn0 hr0 hp (by omega)).mono ?_
          rintro e w' ⟨rfl, ts, hR, h', hL'⟩
          exact ⟨rfl, ts, key w' h' _ _ 3 _ rfl (say_offer W Wr _ len cl px hW1 hp) hR hL' (by simp) (by simp) (by simp)⟩
        · refine (saysClose W wo wcap B B0 B1 b g len px nx cl Wr hW1 cap l0 h r w hrd' hL hW hB hG hn0 hr0 hp (by omega)).mono ?_
          rintro e w' ⟨rfl, ts, hR, h', hL'⟩
          exact ⟨rfl, ts, key w' h' _ _ 3 _ rfl (say_close W Wr _ len cl px hW1 hp) hR hL' (by simp) (by simp) (by simp)⟩
        · refine (saysRead W wo wcap B B0 B1 b g len px nx cl Wr hW1 cap l0 h r w hrd' hL hW hB hG hn0 hr0 hp (by omega)).mono ?_
          rintro e w' ⟨rfl, ts, hR, h', hL'⟩
          exact ⟨rfl, ts, key w' h' _ _ 2 _ rfl (say_read W Wr _ len cl px hW1 hp) hR hL' (by simp) (by simp) (by simp)⟩
        · refine (saysWrite W wo wcap B B0 B1 b g len px nx cl Wr hW1 cap l0 h r w hrd' hL hW hB hG hn0 hr0 hp (by omega)).mono ?_
          rintro e w' ⟨rfl, ts, hR, h', hL'⟩
          exact ⟨rfl, ts, key w' h' _ _ 3 _ rfl (say_rep W Wr _ len cl px kWrite (.inl rfl) hW1 hp) hR hL' (by simp) (by simp) (by simp)⟩
        · refine (saysBoth W wo wcap B B0 B1 b g len px nx cl Wr hW1 cap l0 h r w hrd' hL hW hB hG hn0 hr0 hp (by omega)).mono ?_
          rintro e w' ⟨rfl, ts, hR, h', hL'⟩
          exact ⟨rfl, ts, key w' h' _ _ 3 _ rfl (say_rep W Wr _ len cl px kBoth (.inr rfl) hW1 hp) hR hL' (by simp) (by simp) (by simp)⟩
        · refine (saysDrain W wo wcap B B0 B1 b g len px nx cl Wr hW1 cap l0 h r w hrd' hL hW hB hG hn0 hr0 hp).mono ?_
          rintro e w' ⟨rfl, ts, hR, h', hL'⟩
          exact ⟨rfl, ts, key w' h' _ _ 2 _ rfl (say_drain W Wr _ len cl px hW1 hp) hR hL' (by simp) (by simp) (by simp)⟩
        · refine (saysAbort W wo wcap B B0 B1 b g len px nx cl Wr hW1 cap l0 h r w hrd' hL hW hB hG hn0 hr0 hp).mono ?_
          rintro e w' ⟨rfl, ts, hR, h', hL'⟩
          exact ⟨rfl, ts, key w' h' _ _ 1 _ rfl (say_abort W Wr _ len cl px hW1 hp) hR hL' (by simp) (by simp) (by simp)⟩
  · have hX : sayT (l.map Prod.snd) W len = .error (0, placeT (l.map Prod.snd) ⟨tx, qx, px⟩) := by
      subst hW1
      unfold sayT
      simp only [List.headD_cons]
      exact if_pos hp
    rw [hX]
    refine (saysBad W wo wcap B B0 b len px nx cl tx qx Wr hW1 ao cap l w hrd hL.rnds hW hB hG hn hr0 _ rfl hp).mono ?_
    rintro e w' ⟨rfl, ts, hR⟩
    exact ⟨rfl, ts, hp, _, _, hR⟩
end Go.Proofs.YtmnkekepccdlcaaGreatDoor
