/-
  The event of some words.
  Conditions: the words are short; the errors of strconv stand in their variables.
-/
import Derived.Test.YtmnkekepccdlcaaGreatDoorLogI
namespace Go.Proofs.YtmnkekepccdlcaaGreatDoor
set_option linter.unusedVariables false
set_option linter.unusedSimpArgs false
open Go.RowKit

/-- Where the parts lie while an event is read. -/
structure SM (w0 w : World) (q1 q2 q4 g cap : Nat) (ws : List (List UInt8)) (cs : Array Value) : Prop where
  k1 : Blk w q1 45 #[.slice (some ⟨g, 0, none⟩) ws.length cap]
  k2 : Blk w q2 27 (evC ev0)
  k4 : Blk w q4 27 cs
  bel : Below w0.heap.size w0 w
  n2 : q2 ≠ q4
  n1 : q1 ≠ q4
  o2 : w0.heap.size ≤ q2
  o4 : w0.heap.size ≤ q4
theorem SM.later {w0 w w' : World} {q1 q2 q4 g cap : Nat} {ws : List (List UInt8)} {cs : Array Value} (h : SM w0 w q1 q2 q4 g cap ws cs) (hb : Below w.heap.size w w') : SM w0 w' q1 q2 q4 g cap ws cs :=
  ⟨h.k1.later hb, h.k2.later hb, h.k4.later hb, h.bel.up hb, h.n2, h.n1, h.o2, h.o4⟩
theorem SM.set_ {w0 w : World} {q1 q2 q4 g cap : Nat} {ws : List (List UInt8)} {cs : Array Value} (h : SM w0 w q1 q2 q4 g cap ws cs) (i : Nat) (u : Value) : SM w0 (w.setCell ⟨q4, i, none⟩ u) q1 q2 q4 g cap ws (cs.setIfInBounds i u) :=
  ⟨h.k1.far (p := ⟨q4, i, none⟩) h.n1 u, h.k2.far (p := ⟨q4, i, none⟩) h.n2 u, h.k4.set_ i u, h.bel.setCell (p := ⟨q4, i, none⟩) h.o4 u, h.n2, h.n1, h.o2, h.o4⟩
theorem SM.alloc {w0 w : World} {q1 q2 q4 g cap : Nat} {ws : List (List UInt8)} {cs : Array Value} (h : SM w0 w q1 q2 q4 g cap ws cs) (o : Obj) : SM w0 (w.alloc o) q1 q2 q4 g cap ws cs := h.later ((Below.refl _ _).alloc (Nat.le_refl _) _)
theorem lAt1 (q g cap : Nat) (ws : List (List UInt8)) (w : World) (hk : Blk w q 45 #[.slice (some ⟨g, 0, none⟩) ws.length cap]) (hw : WL w g ws) (hl : ws.length ≤ 1000000) :
    Calls Tryz.prog 100 #[.int .i64 1, .pointer (some ⟨q, 0, none⟩)] w fun e w' => e = .returned (.string ⟨(atW ws 1).toArray⟩) ∧ w = w' := lAt q g cap ws 1 w hk hw hl (by decide)
theorem lAt2 (q g cap : Nat) (ws : List (List UInt8)) (w : World) (hk : Blk w q 45 #[.slice (some ⟨g, 0, none⟩) ws.length cap]) (hw : WL w g ws) (hl : ws.length ≤ 1000000) :
    Calls Tryz.prog 100 #[.int .i64 2, .pointer (some ⟨q, 0, none⟩)] w fun e w' => e = .returned (.string ⟨(atW ws 2).toArray⟩) ∧ w = w' := lAt q g cap ws 2 w hk hw hl (by decide)
theorem lAt3 (q g cap : Nat) (ws : List (List UInt8)) (w : World) (hk : Blk w q 45 #[.slice (some ⟨g, 0, none⟩) ws.length cap]) (hw : WL w g ws) (hl : ws.length ≤ 1000000) :
    Calls Tryz.prog 100 #[.int .i64 3, .pointer (some ⟨q, 0, none⟩)] w fun e w' => e = .returned (.string ⟨(atW ws 3).toArray⟩) ∧ w = w' := lAt q g cap ws 3 w hk hw hl (by decide)
theorem lAt4 (q g cap : Nat) (ws : List (List UInt8)) (w : World) (hk : Blk w q 45 #[.slice (some ⟨g, 0, none⟩) ws.length cap]) (hw : WL w g ws) (hl : ws.length ≤ 1000000) :
    Calls Tryz.prog 100 #[.int .i64 4, .pointer (some ⟨q, 0, none⟩)] w fun e w' => e = .returned (.string ⟨(atW ws 4).toArray⟩) ∧ w = w' := lAt q g cap ws 4 w hk hw hl (by decide)
theorem lAt5 (q g cap : Nat) (ws : List (List UInt8)) (w : World) (hk : Blk w q 45 #[.slice (some ⟨g, 0, none⟩) ws.length cap]) (hw : WL w g ws) (hl : ws.length ≤ 1000000) :
    Calls Tryz.prog 100 #[.int .i64 5, .pointer (some ⟨q, 0, none⟩)] w fun e w' => e = .returned (.string ⟨(atW ws 5).toArray⟩) ∧ w = w' := lAt q g cap ws 5 w hk hw hl (by decide)
theorem lAt6 (q g cap : Nat) (ws : List (List UInt8)) (w : World) (hk : Blk w q 45 #[.slice (some ⟨g, 0, none⟩) ws.length cap]) (hw : WL w g ws) (hl : ws.length ≤ 1000000) :
    Calls Tryz.prog 100 #[.int .i64 6, .pointer (some ⟨q, 0, none⟩)] w fun e w' => e = .returned (.string ⟨(atW ws 6).toArray⟩) ∧ w = w' := lAt q g cap ws 6 w hk hw hl (by decide)
theorem lAt7 (q g cap : Nat) (ws : List (List UInt8)) (w : World) (hk : Blk w q 45 #[.slice (some ⟨g, 0, none⟩) ws.length cap]) (hw : WL w g ws) (hl : ws.length ≤ 1000000) :
    Calls Tryz.prog 100 #[.int .i64 7, .pointer (some ⟨q, 0, none⟩)] w fun e w' => e = .returned (.string ⟨(atW ws 7).toArray⟩) ∧ w = w' := lAt q g cap ws 7 w hk hw hl (by decide)
theorem SM.all {w0 w : World} {q1 q2 q4 g cap : Nat} {ws : List (List UInt8)} {y0 y1 y2 y3 y4 y5 y6 y7 y8 y9 y10 y11 : Value} (h : SM w0 w q1 q2 q4 g cap ws #[y0, y1, y2, y3, y4, y5, y6, y7, y8, y9, y10, y11]) (x0 x1 x2 x3 x4 x5 x6 x7 x8 x9 x10 x11 : Value) :
    SM w0 ((((((((((((w.setCell ⟨q4, 0, none⟩ (x0)).setCell ⟨q4, 1, none⟩ (x1)).setCell ⟨q4, 2, none⟩ (x2)).setCell ⟨q4, 3, none⟩ (x3)).setCell ⟨q4, 4, none⟩ (x4)).setCell ⟨q4, 5, none⟩ (x5)).setCell ⟨q4, 6, none⟩ (x6)).setCell ⟨q4, 7, none⟩ (x7)).setCell ⟨q4, 8, none⟩ (x8)).setCell ⟨q4, 9, none⟩ (x9)).setCell ⟨q4, 10, none⟩ (x10)).setCell ⟨q4, 11, none⟩ (x11)) q1 q2 q4 g cap ws #[x0, x1, x2, x3, x4, x5, x6, x7, x8, x9, x10, x11] :=
  ⟨((((((((((((h.k1.far (p := ⟨q4, 0, none⟩) h.n1 x0).far (p := ⟨q4, 1, none⟩) h.n1 x1).far (p := ⟨q4, 2, none⟩) h.n1 x2).far (p := ⟨q4, 3, none⟩) h.n1 x3).far (p := ⟨q4, 4, none⟩) h.n1 x4).far (p := ⟨q4, 5, none⟩) h.n1 x5).far (p := ⟨q4, 6, none⟩) h.n1 x6).far (p := ⟨q4, 7, none⟩) h.n1 x7).far (p := ⟨q4, 8, none⟩) h.n1 x8).far (p := ⟨q4, 9, none⟩) h.n1 x9).far (p := ⟨q4, 10, none⟩) h.n1 x10).far (p := ⟨q4, 11, none⟩) h.n1 x11), ((((((((((((h.k2.far (p := ⟨q4, 0, none⟩) h.n2 x0).far (p := ⟨q4, 1, none⟩) h.n2 x1).far (p := ⟨q4, 2, none⟩) h.n2 x2).far (p := ⟨q4, 3, none⟩) h.n2 x3).far (p := ⟨q4, 4, none⟩) h.n2 x4).far (p := ⟨q4, 5, none⟩) h.n2 x5).far (p := ⟨q4, 6, none⟩) h.n2 x6).far (p := ⟨q4, 7, none⟩) h.n2 x7).far (p := ⟨q4, 8, none⟩) h.n2 x8).far (p := ⟨q4, 9, none⟩) h.n2 x9).far (p := ⟨q4, 10, none⟩) h.n2 x10).far (p := ⟨q4, 11, none⟩) h.n2 x11), Blk.set12 h.k4 x0 x1 x2 x3 x4 x5 x6 x7 x8 x9 x10 x11, below_set12 h.bel h.o4 x0 x1 x2 x3 x4 x5 x6 x7 x8 x9 x10 x11, h.n2, h.n1, h.o2, h.o4⟩
theorem sm_start {w w3 : World} {q1 q2 g cap : Nat} {ws : List (List UInt8)} (hq : w.heap.size = q1 ∧ q1 + 1 = q2) (k1 : Blk w3 q1 45 #[.slice (some ⟨g, 0, none⟩) ws.length cap]) (k2 : Blk w3 q2 27 (evC ev0)) (hb : Below w.heap.size w w3) (cs : Array Value) :
    SM w (w3.alloc (.cells cs 27)) q1 q2 w3.heap.size g cap ws cs :=
  ⟨k1.alloc _, k2.alloc _, Blk.new _ _ _, hb.alloc hb.size _, Nat.ne_of_lt k2.lt, Nat.ne_of_lt k1.lt, by omega, hb.size⟩
end Go.Proofs.YtmnkekepccdlcaaGreatDoor
