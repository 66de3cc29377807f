/-
  proj: a life, and what one event adds to it.
  Conditions: the blocks are known; events are of the one, and neither of a drain nor of an end.
-/
import Derived.Test.YtbhgmccaecmpjaaGreatW45
namespace Go.Proofs.YtbhgmccaecmpjaaGreat
set_option linter.unusedVariables false
set_option linter.unusedSimpArgs false
open Go.RowKit

theorem info_Input : (Tryz.prog.info? 107).map (fun i => (i.zero, i.size, i.bytes)) = some (some (.agg #[.int .i64 0, .string ⟨#[]⟩, .int .i64 0, .int .i64 0]), 4, 40) := by kernel_rfl
theorem info_Step : (Tryz.prog.info? 67).map (fun i => (i.zero, i.size, i.bytes)) = some (some (.agg #[.int .i64 0, .int .i64 0, .int .i64 0, .int .i64 0, .int .i64 0, .int .i64 0]), 6, 48) := by kernel_rfl
theorem info_Out : (Tryz.prog.info? 109).map (fun i => (i.zero, i.size, i.bytes)) = some (some (.agg #[.int .i64 0, .string ⟨#[]⟩, .int .i64 0, .int .i64 0, .int .i64 0, .int .i64 0, .int .i64 0, .int .i64 0, .bool false]), 9, 80) := by kernel_rfl
/-- A row of things of which only the number is known. -/
def RowN (e : TypeId) (k B : Nat) (w : World) (v : Value) (n : Nat) : Prop := ∃ m xs, m ≤ n ∧ ORow e k B w v m xs
/-- A life, and what should come of it. -/
structure LifeI (B : Nat) (w : World) (x t : Nat) (iv sv wv : Value) (sc fr st : Int) (rd tk : ByteArray) (ef : Bool) (n : Nat) : Prop where
  blk : Blk w x 51 #[.int .i64 0, .int .i64 sc, .int .i64 fr, iv, sv, .string rd, .string tk, .bool ef, .int .i64 st]
  wan : Blk w t 61 #[wv]
  ir : RowN 107 4 B w iv n
  sr : RowN 67 6 B w sv n
  wr : RowN 109 9 B w wv n
  lo : B ≤ x ∧ B ≤ t
  rs : rd.size ≤ 1000 * n
  ts : tk.size ≤ 1000 * n
theorem RowN.later {e : TypeId} {k B n : Nat} {w w' : World} {v : Value} (h : RowN e k B w v n) (b : Below w.heap.size w w') : RowN e k B w' v n := by
  obtain ⟨m, xs, hm, h⟩ := h; exact ⟨m, xs, hm, orow_later h b⟩
theorem LifeI.later {B : Nat} {w w' : World} {x t : Nat} {iv sv wv : Value} {sc fr st : Int} {rd tk : ByteArray} {ef : Bool} {n : Nat} (h : LifeI B w x t iv sv wv sc fr st rd tk ef n) (b : Below w.heap.size w w') : LifeI B w' x t iv sv wv sc fr st rd tk ef n :=
  ⟨h.blk.later b, h.wan.later b, h.ir.later b, h.sr.later b, h.wr.later b, h.lo, h.rs, h.ts⟩
theorem LifeI.more {B : Nat} {w : World} {x t : Nat} {iv sv wv : Value} {sc fr st : Int} {rd tk : ByteArray} {ef : Bool} {n m : Nat} (h : LifeI B w x t iv sv wv sc fr st rd tk ef n) (hn : n ≤ m) : LifeI B w x t iv sv wv sc fr st rd tk ef m := by
  have up : ∀ {e k v}, RowN e k B w v n → RowN e k B w v m := fun ⟨a, xs, ha, h⟩ => ⟨a, xs, by omega, h⟩
  have := h.rs; have := h.ts
  exact ⟨h.blk, h.wan, up h.ir, up h.sr, up h.wr, h.lo, by omega, by omega⟩
theorem Blk.at12 {w : World} {g : Nat} {t : TypeId} {x0 x1 x2 x3 x4 x5 x6 x7 x8 x9 x10 x11 : Value} (h : Blk w g t #[x0, x1, x2, x3, x4, x5, x6, x7, x8, x9, x10, x11]) : ∀ w', Below w.heap.size w w' → w'.cell? ⟨g, 0, none⟩ = some x0 ∧ w'.cell? ⟨g, 1, none⟩ = some x1 ∧ w'.cell? ⟨g, 2, none⟩ = some x2 ∧ w'.cell? ⟨g, 3, none⟩ = some x3 ∧ w'.cell? ⟨g, 4, none⟩ = some x4 ∧ w'.cell? ⟨g, 5, none⟩ = some x5 ∧ w'.cell? ⟨g, 6, none⟩ = some x6 ∧ w'.cell? ⟨g, 7, none⟩ = some x7 ∧ w'.cell? ⟨g, 8, none⟩ = some x8 ∧ w'.cell? ⟨g, 9, none⟩ = some x9 ∧ w'.cell? ⟨g, 10, none⟩ = some x10 ∧ w'.cell? ⟨g, 11, none⟩ = some x11 := fun w' hb => by
  have k := h.later hb
  exact ⟨k.cell 0, k.cell 1, k.cell 2, k.cell 3, k.cell 4, k.cell 5, k.cell 6, k.cell 7, k.cell 8, k.cell 9, k.cell 10, k.cell 11⟩
theorem Blk.type_ne {w : World} {a b : Nat} {t u : TypeId} {cs ds : Array Value} (h : Blk w a t cs) (k : Blk w b u ds) (htu : t ≠ u) : a ≠ b := fun e => by
  subst e
  unfold Blk at h k
  rw [h] at k
  injection k with k
  injection k with _ k _
  exact htu k
theorem RowN.kind {e : TypeId} {k B n : Nat} {w : World} {v : Value} (h : RowN e k B w v n) {g : Nat} (hg : v.ownBlock = some g) : ∃ cur, Blk w g e cur := by
  obtain ⟨m, xs, _, h⟩ := h; exact orow_kind h hg
theorem RowN.lt {e : TypeId} {k B n : Nat} {w : World} {v : Value} (h : RowN e k B w v n) {g : Nat} (hg : v.ownBlock = some g) : B ≤ g ∧ g < w.heap.size := by
  obtain ⟨m, xs, _, h⟩ := h; exact World.ownsRow.lt h g hg
theorem RowN.keep {e : TypeId} {k B n : Nat} {w w' : World} {v : Value} {F : Nat → Prop} (h : RowN e k B w v n) (f : Foot F w w') (hF : ∀ g, v.ownBlock = some g → ¬ F g) : RowN e k B w' v n := by
  obtain ⟨m, xs, hm, h⟩ := h; exact ⟨m, xs, hm, h.sameB f hF⟩
theorem RowN.up {e : TypeId} {k B n m : Nat} {w : World} {v : Value} (h : RowN e k B w v n) (hn : n ≤ m) : RowN e k B w v m := by
  obtain ⟨a, xs, ha, h⟩ := h; exact ⟨a, xs, by omega, h⟩
section
variable {B : Nat} {w w' : World} {x t : Nat} {iv sv wv : Value} {sc fr st : Int} {rd tk : ByteArray} {ef : Bool} {n : Nat}
/-- Its own block alone has turned. -/
theorem LifeI.own (h : LifeI B w x t iv sv wv sc fr st rd tk ef n) (f : Foot (fun i => i = x) w w') {sc' fr' st' : Int} {rd' tk' : ByteArray} {ef' : Bool} {m : Nat} (hb : Blk w' x 51 #[.int .i64 0, .int .i64 sc', .int .i64 fr', iv, sv, .string rd', .string tk', .bool ef', .int .i64 st']) (hm : n ≤ m) (hr : rd'.size ≤ 1000 * m) (ht : tk'.size ≤ 1000 * m) : LifeI B w' x t iv sv wv sc' fr' st' rd' tk' ef' m := by
  have no : ∀ {e k v}, RowN e k B w v n → e ≠ 51 → ∀ g, v.ownBlock = some g → ¬ g = x := fun h1 hne g hg e => by
    obtain ⟨cur, hc⟩ := h1.kind hg
    exact hc.type_ne h.blk hne e
  exact ⟨hb, h.wan.foot f (h.wan.type_ne h.blk (by decide)), (h.ir.keep f (no h.ir (by decide))).up hm, (h.sr.keep f (no h.sr (by decide))).up hm, (h.wr.keep f (no h.wr (by decide))).up hm, h.lo, hr, ht⟩
theorem LifeI.away {F : Nat → Prop} (h : LifeI B w x t iv sv wv sc fr st rd tk ef n) (f : Foot F w w') (hF : ∀ i, F i → i ≠ x ∧ i ≠ t ∧ iv.ownBlock ≠ some i ∧ sv.ownBlock ≠ some i ∧ wv.ownBlock ≠ some i) : LifeI B w' x t iv sv wv sc fr st rd tk ef n :=
  ⟨h.blk.foot f (fun hf => (hF _ hf).1 rfl), h.wan.foot f (fun hf => (hF _ hf).2.1 rfl), h.ir.keep f (fun g hg hf => (hF _ hf).2.2.1 hg), h.sr.keep f (fun g hg hf => (hF _ hf).2.2.2.1 hg), h.wr.keep f (fun g hg hf => (hF _ hf).2.2.2.2 hg), h.lo, h.rs, h.ts⟩
theorem LifeI.old (h : LifeI B w x t iv sv wv sc fr st rd tk ef n) : x < w.heap.size ∧ t < w.heap.size ∧ (∀ g, iv.ownBlock = some g → g < w.heap.size) ∧ (∀ g, sv.ownBlock = some g → g < w.heap.size) ∧ ∀ g, wv.ownBlock = some g → g < w.heap.size :=
  ⟨h.blk.lt, h.wan.lt, fun _ hg => (h.ir.lt hg).2, fun _ hg => (h.sr.lt hg).2, fun _ hg => (h.wr.lt hg).2⟩
/-- A row has grown, and is stored. -/
theorem LifeI.grewI (h : LifeI B w x t iv sv wv sc fr st rd tk ef n) {w2 : World} (g : w.grownBy w2 iv.ownBlock) {iv' : Value} (r : RowN 107 4 B w2 iv' n) (hlt : ∀ g, iv'.ownBlock = some g → g ≠ x ∧ g ≠ t) : LifeI B (w2.setCell ⟨x, 3, none⟩ iv') x t iv' sv wv sc fr st rd tk ef n := by
  have f1 : Foot (fun i => iv.ownBlock = some i) w w2 := Foot.grown g (fun _ e => e)
  have f2 : Foot (fun i => i = x) w2 (w2.setCell ⟨x, 3, none⟩ iv') := foot_set (fun i => i = x) (Foot.refl _ w2) x 3 rfl _
  have no1 : ∀ g, iv.ownBlock = some g → ∃ cur, Blk w g 107 cur := fun g hg => h.ir.kind hg
  have hb := h.blk.foot f1 (fun e => by obtain ⟨_, hc⟩ := no1 _ e; exact (hc.type_ne h.blk (by decide)) rfl)
  have ht := h.wan.foot f1 (fun e => by obtain ⟨_, hc⟩ := no1 _ e; exact (hc.type_ne h.wan (by decide)) rfl)
  have hs := h.sr.keep f1 (fun g hg e => by obtain ⟨_, hc⟩ := no1 _ e; obtain ⟨_, hc2⟩ := h.sr.kind hg; exact (hc.type_ne hc2 (by decide)) rfl)
  have hw := h.wr.keep f1 (fun g hg e => by obtain ⟨_, hc⟩ := no1 _ e; obtain ⟨_, hc2⟩ := h.wr.kind hg; exact (hc.type_ne hc2 (by decide)) rfl)
  exact ⟨hb.set_ 3 iv', ht.foot f2 (ht.type_ne hb (by decide)), r.keep f2 (fun g hg e => (hlt g hg).1 e), hs.keep f2 (fun g hg e => by obtain ⟨_, hc⟩ := hs.kind hg; exact hc.type_ne hb (by decide) e), hw.keep f2 (fun g hg e => by obtain ⟨_, hc⟩ := hw.kind hg; exact hc.type_ne hb (by decide) e), h.lo, h.rs, h.ts⟩
theorem LifeI.grewW (h : LifeI B w x t iv sv wv sc fr st rd tk ef n) {w2 : World} (g : w.grownBy w2 wv.ownBlock) {wv' : Value} (r : RowN 109 9 B w2 wv' n) (hlt : ∀ g, wv'.ownBlock = some g → g ≠ x ∧ g ≠ t) : LifeI B (w2.setCell ⟨t, 0, none⟩ wv') x t iv sv wv' sc fr st rd tk ef n := by
  have f1 : Foot (fun i => wv.ownBlock = some i) w w2 := Foot.grown g (fun _ e => e)
  have f2 : Foot (fun i => i = t) w2 (w2.setCell ⟨t, 0, none⟩ wv') := foot_set (fun i => i = t) (Foot.refl _ w2) t 0 rfl _
  have no1 : ∀ g, wv.ownBlock = some g → ∃ cur, Blk w g 109 cur := fun g hg => h.wr.kind hg
  have hb := h.blk.foot f1 (fun e => by obtain ⟨_, hc⟩ := no1 _ e; exact (hc.type_ne h.blk (by decide)) rfl)
  have ht := h.wan.foot f1 (fun e => by obtain ⟨_, hc⟩ := no1 _ e; exact (hc.type_ne h.wan (by decide)) rfl)
  have hi := h.ir.keep f1 (fun g hg e => by obtain ⟨_, hc⟩ := no1 _ e; obtain ⟨_, hc2⟩ := h.ir.kind hg; exact (hc.type_ne hc2 (by decide)) rfl)
  have hs := h.sr.keep f1 (fun g hg e => by obtain ⟨_, hc⟩ := no1 _ e; obtain ⟨_, hc2⟩ := h.sr.kind hg; exact (hc.type_ne hc2 (by decide)) rfl)
  exact ⟨hb.foot f2 (hb.type_ne ht (by decide)), ht.set_ 0 wv', hi.keep f2 (fun g hg e => by obtain ⟨_, hc⟩ := hi.kind hg; exact hc.type_ne ht (by decide) e), hs.keep f2 (fun g hg e => by obtain ⟨_, hc⟩ := hs.kind hg; exact hc.type_ne ht (by decide) e), r.keep f2 (fun g hg e => (hlt g hg).2 e), h.lo, h.rs, h.ts⟩
end
/-- Where add stands ahead of its two rows. -/
structure AdI (B : Nat) (w w5 : World) (x t : Nat) (iv sv wv : Value) (sc fr st : Int) (rd tk : ByteArray) (ef : Bool) (n : Nat) (q4 q6 q7 : Nat) (evc inc ouc : Array Value) : Prop where
  l : LifeI B w5 x t iv sv wv sc fr st rd tk ef n
  e : Blk w5 q4 69 evc
  i : Blk w5 q6 107 inc
  o : Blk w5 q7 109 ouc
  f : Foot (fun i => B ≤ i) w w5
  lo : w.heap.size ≤ q4 ∧ q4 < q6 ∧ q6 < q7
  old : x < w.heap.size ∧ t < w.heap.size ∧ (∀ g, iv.ownBlock = some g → g < w.heap.size) ∧ ∀ g, wv.ownBlock = some g → g < w.heap.size
/-- What is new at the beginning of add: the event, an input, what comes of it. -/
structure AdN (w w3 : World) (q4 q6 q7 : Nat) (k vn vt : Int) (b : ByteArray) (er s0 s1 s2 s3 s4 s5 : Int) : Prop where
  bl : Below w.heap.size w w3
  e : Blk w3 q4 69 #[.int .i64 k, .int .i64 0, .int .i64 vn, .int .i64 vt, .string b, .int .i64 er, .int .i64 s0, .int .i64 s1, .int .i64 s2, .int .i64 s3, .int .i64 s4, .int .i64 s5]
  i : Blk w3 q6 107 #[.int .i64 0, .string ⟨#[]⟩, .int .i64 0, .int .i64 0]
  o : Blk w3 q7 109 #[.int .i64 0, .string ⟨#[]⟩, .int .i64 0, .int .i64 0, .int .i64 0, .int .i64 0, .int .i64 0, .int .i64 0, .bool false]
  lo : w.heap.size ≤ q4 ∧ q4 < q6 ∧ q6 < q7
theorem AdN.later {w w3 w' : World} {q4 q6 q7 : Nat} {k vn vt : Int} {b : ByteArray} {er s0 s1 s2 s3 s4 s5 : Int} (h : AdN w w3 q4 q6 q7 k vn vt b er s0 s1 s2 s3 s4 s5) (hb : Below w3.heap.size w3 w') : AdN w w' q4 q6 q7 k vn vt b er s0 s1 s2 s3 s4 s5 :=
  ⟨h.bl.up hb, h.e.later hb, h.i.later hb, h.o.later hb, h.lo⟩
theorem Blk.at9 {w : World} {g : Nat} {t : TypeId} {x0 x1 x2 x3 x4 x5 x6 x7 x8 : Value} (h : Blk w g t #[x0, x1, x2, x3, x4, x5, x6, x7, x8]) : ∀ w', Below w.heap.size w w' → w'.cell? ⟨g, 0, none⟩ = some x0 ∧ w'.cell? ⟨g, 1, none⟩ = some x1 ∧ w'.cell? ⟨g, 2, none⟩ = some x2 ∧ w'.cell? ⟨g, 3, none⟩ = some x3 ∧ w'.cell? ⟨g, 4, none⟩ = some x4 ∧ w'.cell? ⟨g, 5, none⟩ = some x5 ∧ w'.cell? ⟨g, 6, none⟩ = some x6 ∧ w'.cell? ⟨g, 7, none⟩ = some x7 ∧ w'.cell? ⟨g, 8, none⟩ = some x8 ∧ ∀ i, w'.frozen? ⟨g, i, none⟩ = false := fun w' hb => by
  have k := h.later hb
  exact ⟨k.cell 0, k.cell 1, k.cell 2, k.cell 3, k.cell 4, k.cell 5, k.cell 6, k.cell 7, k.cell 8, fun i => k.frozen i⟩
section
variable {B : Nat} {w w5 w' : World} {x t : Nat} {iv sv wv : Value} {sc fr st : Int} {rd tk : ByteArray} {ef : Bool} {n q4 q6 q7 : Nat} {evc inc ouc : Array Value}
theorem AdI.later (h : AdI B w w5 x t iv sv wv sc fr st rd tk ef n q4 q6 q7 evc inc ouc) (b : Below w5.heap.size w5 w') : AdI B w w' x t iv sv wv sc fr st rd tk ef n q4 q6 q7 evc inc ouc :=
  ⟨h.l.later b, h.e.later b, h.i.later b, h.o.later b, h.f.up b, h.lo, h.old⟩
theorem AdI.own (h : AdI B w w5 x t iv sv wv sc fr st rd tk ef n q4 q6 q7 evc inc ouc) (f : Foot (fun i => i = x) w5 w') {sc' fr' st' : Int} {rd' tk' : ByteArray} {ef' : Bool} {m : Nat} (hb : Blk w' x 51 #[.int .i64 0, .int .i64 sc', .int .i64 fr', iv, sv, .string rd', .string tk', .bool ef', .int .i64 st']) (hm : n ≤ m) (hr : rd'.size ≤ 1000 * m) (ht : tk'.size ≤ 1000 * m) : AdI B w w' x t iv sv wv sc' fr' st' rd' tk' ef' m q4 q6 q7 evc inc ouc := by
  have h1 := h.old.1
  have h2 := h.lo
  exact ⟨h.l.own f hb hm hr ht, h.e.foot f (by show ¬ q4 = x; omega), h.i.foot f (by show ¬ q6 = x; omega), h.o.foot f (by show ¬ q7 = x; omega), h.f.trans (f.mono fun i hi => by rw [hi]; exact h.l.lo.1), h.lo, h.old⟩
theorem AdI.ne6 (h : AdI B w w5 x t iv sv wv sc fr st rd tk ef n q4 q6 q7 evc inc ouc) : q6 ≠ x ∧ q6 ≠ t ∧ iv.ownBlock ≠ some q6 ∧ sv.ownBlock ≠ some q6 ∧ wv.ownBlock ≠ some q6 := by
  obtain ⟨h1, h2, h3, h5⟩ := h.old
  have h0 := h.lo
  exact ⟨by omega, by omega, fun e => by have := h3 _ e; omega, fun e => by obtain ⟨_, hc⟩ := h.l.sr.kind e; exact (hc.type_ne h.i (by decide)) rfl, fun e => by have := h5 _ e; omega⟩
theorem AdI.ne7 (h : AdI B w w5 x t iv sv wv sc fr st rd tk ef n q4 q6 q7 evc inc ouc) : q7 ≠ x ∧ q7 ≠ t ∧ iv.ownBlock ≠ some q7 ∧ sv.ownBlock ≠ some q7 ∧ wv.ownBlock ≠ some q7 := by
  obtain ⟨h1, h2, h3, h5⟩ := h.old
  have h0 := h.lo
  exact ⟨by omega, by omega, fun e => by have := h3 _ e; omega, fun e => by obtain ⟨_, hc⟩ := h.l.sr.kind e; exact (hc.type_ne h.o (by decide)) rfl, fun e => by have := h5 _ e; omega⟩
/-- The row of steps has grown, and is stored, with how one stands. -/
theorem AdI.step {as_ : Option Addr} {ms cs_ : Nat} (h : AdI B w w5 x t iv (.slice as_ ms cs_) wv sc fr st rd tk ef n q4 q6 q7 evc inc ouc) {w2 : World} (g : w5.grownBy w2 (Value.ownBlock (.slice as_ ms cs_))) {sv' : Value} (r : RowN 67 6 B w2 sv' (n + 1)) (hlt : ∀ g, sv'.ownBlock = some g → Value.ownBlock (.slice as_ ms cs_) = some g ∨ w5.heap.size ≤ g) (s5 : Int) : AdI B w ((w2.setCell ⟨x, 4, none⟩ sv').setCell ⟨x, 8, none⟩ (.int .i64 s5)) x t iv sv' wv sc fr s5 rd tk ef (n + 1) q4 q6 q7 evc inc ouc := by
  have f1 : Foot (fun i => Value.ownBlock (.slice as_ ms cs_) = some i) w5 w2 := Foot.grown g (fun _ e => e)
  have no1 : ∀ g, Value.ownBlock (.slice as_ ms cs_) = some g → ∃ cur, Blk w5 g 67 cur := fun g hg => h.l.sr.kind hg
  have hb := h.l.blk.foot f1 (fun e => by obtain ⟨_, hc⟩ := no1 _ e; exact (hc.type_ne h.l.blk (by decide)) rfl)
  have ht := h.l.wan.foot f1 (fun e => by obtain ⟨_, hc⟩ := no1 _ e; exact (hc.type_ne h.l.wan (by decide)) rfl)
  have hi := h.l.ir.keep f1 (fun g hg e => by obtain ⟨_, hc⟩ := no1 _ e; obtain ⟨_, hc2⟩ := h.l.ir.kind hg; exact (hc.type_ne hc2 (by decide)) rfl)
  have hw := h.l.wr.keep f1 (fun g hg e => by obtain ⟨_, hc⟩ := no1 _ e; obtain ⟨_, hc2⟩ := h.l.wr.kind hg; exact (hc.type_ne hc2 (by decide)) rfl)
  have k4 := h.e.foot f1 (fun e => by obtain ⟨_, hc⟩ := no1 _ e; exact (hc.type_ne h.e (by decide)) rfl)
  have k6 := h.i.foot f1 (fun e => h.ne6.2.2.2.1 e)
  have k7 := h.o.foot f1 (fun e => h.ne7.2.2.2.1 e)
  have f2 : Foot (fun i => i = x) w2 ((w2.setCell ⟨x, 4, none⟩ sv').setCell ⟨x, 8, none⟩ (.int .i64 s5)) := foot_set (fun i => i = x) (foot_set (fun i => i = x) (Foot.refl _ w2) x 4 rfl _) x 8 rfl _
  have nx : ∀ {e k v m}, RowN e k B w2 v m → e ≠ 51 → ∀ g, v.ownBlock = some g → ¬ g = x := fun h1 hne g hg e => by
    obtain ⟨cur, hc⟩ := h1.kind hg
    exact hc.type_ne hb hne e
  have h0 := h.lo
  have h9 := h.old
  refine ⟨⟨(hb.set_ 4 sv').set_ 8 (.int .i64 s5), ht.foot f2 (ht.type_ne hb (by decide)), (hi.keep f2 (nx hi (by decide))).up (Nat.le_succ n), r.keep f2 (nx r (by decide)), (hw.keep f2 (nx hw (by decide))).up (Nat.le_succ n), h.l.lo, by have := h.l.rs; omega, by have := h.l.ts; omega⟩, k4.foot f2 (by show ¬ q4 = x; omega), k6.foot f2 (by show ¬ q6 = x; omega), k7.foot f2 (by show ¬ q7 = x; omega), (h.f.trans (f1.mono fun i hi => (h.l.sr.lt hi).1)).trans (f2.mono fun i hi => by rw [hi]; exact h.l.lo.1), h.lo, h.old⟩
theorem AdI.setI (h : AdI B w w5 x t iv sv wv sc fr st rd tk ef n q4 q6 q7 evc inc ouc) (hB : B ≤ w.heap.size) (f : Foot (fun i => i = q6) w5 w') {inc' : Array Value} (hb : Blk w' q6 107 inc') : AdI B w w' x t iv sv wv sc fr st rd tk ef n q4 q6 q7 evc inc' ouc := by
  have h2 := h.lo
  exact ⟨h.l.away f (fun i hi => by rw [hi]; exact h.ne6), h.e.foot f (by show ¬ q4 = q6; omega), hb, h.o.foot f (by show ¬ q7 = q6; omega), h.f.trans (f.mono fun i hi => by rw [hi]; omega), h.lo, h.old⟩
theorem AdI.setO (h : AdI B w w5 x t iv sv wv sc fr st rd tk ef n q4 q6 q7 evc inc ouc) (hB : B ≤ w.heap.size) (f : Foot (fun i => i = q7) w5 w') {ouc' : Array Value} (hb : Blk w' q7 109 ouc') : AdI B w w' x t iv sv wv sc fr st rd tk ef n q4 q6 q7 evc inc ouc' := by
  have h2 := h.lo
  exact ⟨h.l.away f (fun i hi => by rw [hi]; exact h.ne7), h.e.foot f (by show ¬ q4 = q7; omega), h.i.foot f (by show ¬ q6 = q7; omega), hb, h.f.trans (f.mono fun i hi => by rw [hi]; omega), h.lo, h.old⟩
theorem foot_set4 {F : Nat → Prop} {a w : World} {g : Nat} (h : Foot F a w) (hg : F g) (u0 u1 u2 u3 : Value) : Foot F a ((((w.setCell ⟨g, 0, none⟩ u0).setCell ⟨g, 1, none⟩ u1).setCell ⟨g, 2, none⟩ u2).setCell ⟨g, 3, none⟩ u3) :=
  foot_set F (foot_set F (foot_set F (foot_set F h g 0 hg u0) g 1 hg u1) g 2 hg u2) g 3 hg u3
end
set_option maxRecDepth 100000 in
set_option maxHeartbeats 8000000 in
theorem adNone {B : Nat} {w : World} {x t : Nat} {iv sv wv : Value} {sc fr st : Int} {rd tk : ByteArray} {ef : Bool} {n : Nat} (h : LifeI B w x t iv sv wv sc fr st rd tk ef n) (hB : B ≤ w.heap.size) (v : EvT) (hi : v.i = 0) (hk : v.k ≠ 4 ∧ v.k ≠ 5 ∧ v.k ≠ 6 ∧ v.k ≠ 7 ∧ v.k ≠ 8) (hv : v.b.size ≤ 1000) (hn : n ≤ 300000) :
    Calls Tryz.prog 19 #[.pointer (some ⟨x, 0, none⟩), .agg v.cells.toArray, .pointer (some ⟨t, 0, none⟩)] w fun e w' => e = .returned (.tuple #[]) ∧ Below w.heap.size w w' := by
  obtain ⟨k, i, vn, vt, b, er, s0, s1, s2, s3, s4, s5⟩ := v
  simp only at hi hk hv
  subst hi
  unfold EvT.cells
  simp only
  obtain ⟨q4, hq4⟩ : ∃ q, w.heap.size = q := ⟨_, rfl⟩
  obtain ⟨wa, hwa⟩ : ∃ wa, wa = w.alloc (.cells #[.int .i64 k, .int .i64 0, .int .i64 vn, .int .i64 vt, .string b, .int .i64 er, .int .i64 s0, .int .i64 s1, .int .i64 s2, .int .i64 s3, .int .i64 s4, .int .i64 s5] 69) := ⟨_, rfl⟩
  have Ka : Blk wa q4 69 #[.int .i64 k, .int .i64 0, .int .i64 vn, .int .i64 vt, .string b, .int .i64 er, .int .i64 s0, .int .i64 s1, .int .i64 s2, .int .i64 s3, .int .i64 s4, .int .i64 s5] := by rw [hwa, ← hq4]; exact Blk.new _ _ _
  have ba : Below w.heap.size w wa := by rw [hwa]; exact Below.alloc (Below.refl _ _) (Nat.le_refl _) _
  have sa : wa.heap.size = q4 + 1 := by rw [hwa, ← hq4]; simp
  obtain ⟨wb, hwb⟩ : ∃ wb, wb = wa.alloc (.cells #[.int .i64 0, .string ⟨#[]⟩, .int .i64 0, .int .i64 0] 107) := ⟨_, rfl⟩
  have Kb : Blk wb (q4 + 1) 107 #[.int .i64 0, .string ⟨#[]⟩, .int .i64 0, .int .i64 0] := by rw [hwb, ← sa]; exact Blk.new _ _ _
  have bb : Below wa.heap.size wa wb := by rw [hwb]; exact Below.alloc (Below.refl _ _) (Nat.le_refl _) _
  have sb : wb.heap.size = q4 + 2 := by rw [hwb]; simp [sa]
  obtain ⟨w3, hw3⟩ : ∃ w3, w3 = wb.alloc (.cells #[.int .i64 0, .string ⟨#[]⟩, .int .i64 0, .int .i64 0, .int .i64 0, .int .i64 0, .int .i64 0, .int .i64 0, .bool false] 109) := ⟨_, rfl⟩
  have Kc : Blk w3 (q4 + 2) 109 #[.int .i64 0, .string ⟨#[]⟩, .int .i64 0, .int .i64 0, .int .i64 0, .int .i64 0, .int .i64 0, .int .i64 0, .bool false] := by rw [hw3, ← sb]; exact Blk.new _ _ _
  have bc : Below wb.heap.size wb w3 := by rw [hw3]; exact Below.alloc (Below.refl _ _) (Nat.le_refl _) _
  have HN3 : Hid (AdN w w3 q4 (q4 + 1) (q4 + 1 + 1) k vn vt b er s0 s1 s2 s3 s4 s5) := Lib.hid ⟨(ba.up bb).up bc, (Ka.later bb).later bc, Kb.later bc, Kc, by omega⟩
  have hw3' : w3 = ((w.alloc (.cells #[.int .i64 k, .int .i64 0, .int .i64 vn, .int .i64 vt, .string b, .int .i64 er, .int .i64 s0, .int .i64 s1, .int .i64 s2, .int .i64 s3, .int .i64 s4, .int .i64 s5] 69)).alloc (.cells #[.int .i64 0, .string ⟨#[]⟩, .int .i64 0, .int .i64 0] 107)).alloc (.cells #[.int .i64 0, .string ⟨#[]⟩, .int .i64 0, .int .i64 0, .int .i64 0, .int .i64 0, .int .i64 0, .int .i64 0, .bool false] 109) := by rw [hw3, hwb, hwa]
  have HW3 := Lib.hid hw3'
  have HL3 := Lib.hid (h.later HN3.out.bl)
  have HOLD := Lib.hid h.old
  have HQ := Lib.hid hq4
  have HB := Lib.hid (And.intro hB (And.intro hv hn))
  obtain ⟨h4, h5, h6, h7, h8⟩ := hk
  have n4 : (k == 4) = false := ne_b h4
  have n5 : (k == 5) = false := ne_b h5
  have n6 : (k == 6) = false := ne_b h6
  have n7 : (k == 7) = false := ne_b h7
  have n8 : (k == 8) = false := ne_b h8
  clear h4 h5 h6 h7 h8
  have hst := h.blk
  have d : ∀ w', Below w.heap.size w w' → w'.cell? ⟨x, 8, none⟩ = some (.int .i64 st) := fun w' hb => (hst.later hb).cell 8
  have hr := Below.refl w.heap.size w
  clear hst hw3' hw3 hwb hwa Ka ba sa Kb bb sb Kc bc h hB hv hn hq4
  go_enter Tryz.func19, Tryz.ntmps19
  go_upto_region 3 with fail
  clear d hr
  rw [← HW3.out, HQ.out]
  have d1 := HL3.out.blk.at9
  have d4 := HN3.out.e.at12
  have hr := Below.refl w3.heap.size w3
  go_upto_region 5 with fail
  refine wp_region_later w3.heap.size (by kernel_rfl) (by kernel_rfl) ?_
  have hu : ∀ u : Later w3.heap.size w3, Below w3.heap.size w3 u.world := Later.below
  repeat (go_big_quiet_step ((fail)))
  refine wpQuiet_nil ?_
  intro w4 b4
  have HN4 := Lib.hid (HN3.out.later b4)
  have HL4 := Lib.hid (HL3.out.later b4)
  clear d1 d4 hr hu HN3 HL3 b4 HW3
  obtain ⟨q6, hq6⟩ : ∃ q6, q4 + 1 = q6 := ⟨_, rfl⟩
  rw [hq6] at HN4
  rw [hq6]
  obtain ⟨q7, hq7⟩ : ∃ q7, q6 + 1 = q7 := ⟨_, rfl⟩
  rw [hq7] at HN4
  rw [hq7]
  clear hq6 hq7
  have d1 := HL4.out.blk.at9
  have d4 := HN4.out.e.at12
  have hr := Below.refl w4.heap.size w4
  go_wp2_with fail
  (try simp only [Exit.inBlock, Exit.then])
  refine bodyPost_ret (results_none rfl _ _ _) rfl ?_
  exact ⟨rfl, HN4.out.bl⟩
set_option maxRecDepth 100000 in
set_option maxHeartbeats 8000000 in
theorem adRead {B : Nat} {w : World} {x t : Nat} {iv sv wv : Value} {sc fr st : Int} {rd tk : ByteArray} {ef : Bool} {n : Nat} (h : LifeI B w x t iv sv wv sc fr st rd tk ef n) (hB : B ≤ w.heap.size) (v : EvT) (hi : v.i = 0) (hk : v.k = 4) (hv : v.b.size ≤ 1000) (hn : n ≤ 300000) :
    Calls Tryz.prog 19 #[.pointer (some ⟨x, 0, none⟩), .agg v.cells.toArray, .pointer (some ⟨t, 0, none⟩)] w fun e w' => e = .returned (.tuple #[]) ∧ ∃ iv' sv' wv', LifeI B w' x t iv' sv' wv' sc fr st (rd ++ v.b) tk ef (n + 3) ∧ Foot (fun i => B ≤ i) w w' := by
  obtain ⟨k, i, vn, vt, b, er, s0, s1, s2, s3, s4, s5⟩ := v
  simp only at hi hk hv
  subst hi
  obtain rfl : k = 4 := hk
  unfold EvT.cells
  simp only
  obtain ⟨q4, hq4⟩ : ∃ q, w.heap.size = q := ⟨_, rfl⟩
  obtain ⟨wa, hwa⟩ : ∃ wa, wa = w.alloc (.cells #[.int .i64 4, .int .i64 0, .int .i64 vn, .int .i64 vt, .string b, .int .i64 er, .int .i64 s0, .int .i64 s1, .int .i64 s2, .int .i64 s3, .int .i64 s4, .int .i64 s5] 69) := ⟨_, rfl⟩
  have Ka : Blk wa q4 69 #[.int .i64 4, .int .i64 0, .int .i64 vn, .int .i64 vt, .string b, .int .i64 er, .int .i64 s0, .int .i64 s1, .int .i64 s2, .int .i64 s3, .int .i64 s4, .int .i64 s5] := by rw [hwa, ← hq4]; exact Blk.new _ _ _
  have ba : Below w.heap.size w wa := by rw [hwa]; exact Below.alloc (Below.refl _ _) (Nat.le_refl _) _
  have sa : wa.heap.size = q4 + 1 := by rw [hwa, ← hq4]; simp
  obtain ⟨wb, hwb⟩ : ∃ wb, wb = wa.alloc (.cells #[.int .i64 0, .string ⟨#[]⟩, .int .i64 0, .int .i64 0] 107) := ⟨_, rfl⟩
  have Kb : Blk wb (q4 + 1) 107 #[.int .i64 0, .string ⟨#[]⟩, .int .i64 0, .int .i64 0] := by rw [hwb, ← sa]; exact Blk.new _ _ _
  have bb : Below wa.heap.size wa wb := by rw [hwb]; exact Below.alloc (Below.refl _ _) (Nat.le_refl _) _
  have sb : wb.heap.size = q4 + 2 := by rw [hwb]; simp [sa]
  obtain ⟨w3, hw3⟩ : ∃ w3, w3 = wb.alloc (.cells #[.int .i64 0, .string ⟨#[]⟩, .int .i64 0, .int .i64 0, .int .i64 0, .int .i64 0, .int .i64 0, .int .i64 0, .bool false] 109) := ⟨_, rfl⟩
  have Kc : Blk w3 (q4 + 2) 109 #[.int .i64 0, .string ⟨#[]⟩, .int .i64 0, .int .i64 0, .int .i64 0, .int .i64 0, .int .i64 0, .int .i64 0, .bool false] := by rw [hw3, ← sb]; exact Blk.new _ _ _
  have bc : Below wb.heap.size wb w3 := by rw [hw3]; exact Below.alloc (Below.refl _ _) (Nat.le_refl _) _
  have HN3 : Hid (AdN w w3 q4 (q4 + 1) (q4 + 1 + 1) 4 vn vt b er s0 s1 s2 s3 s4 s5) := Lib.hid ⟨(ba.up bb).up bc, (Ka.later bb).later bc, Kb.later bc, Kc, by omega⟩
  have hw3' : w3 = ((w.alloc (.cells #[.int .i64 4, .int .i64 0, .int .i64 vn, .int .i64 vt, .string b, .int .i64 er, .int .i64 s0, .int .i64 s1, .int .i64 s2, .int .i64 s3, .int .i64 s4, .int .i64 s5] 69)).alloc (.cells #[.int .i64 0, .string ⟨#[]⟩, .int .i64 0, .int .i64 0] 107)).alloc (.cells #[.int .i64 0, .string ⟨#[]⟩, .int .i64 0, .int .i64 0, .int .i64 0, .int .i64 0, .int .i64 0, .int .i64 0, .bool false] 109) := by rw [hw3, hwb, hwa]
  have HW3 := Lib.hid hw3'
  have HL3 := Lib.hid (h.later HN3.out.bl)
  have HOLD := Lib.hid h.old
  have HQ := Lib.hid hq4
  have HB := Lib.hid (And.intro hB (And.intro hv hn))
  have hst := h.blk
  have d : ∀ w', Below w.heap.size w w' → w'.cell? ⟨x, 8, none⟩ = some (.int .i64 st) := fun w' hb => (hst.later hb).cell 8
  have hr := Below.refl w.heap.size w
  clear hst hw3' hw3 hwb hwa Ka ba sa Kb bb sb Kc bc h hB hv hn hq4
  go_enter Tryz.func19, Tryz.ntmps19
  go_upto_region 3 with fail
  clear d hr
  rw [← HW3.out, HQ.out]
  have d1 := HL3.out.blk.at9
  have d4 := HN3.out.e.at12
  have hr := Below.refl w3.heap.size w3
  go_upto_region 5 with fail
  refine wp_region_later w3.heap.size (by kernel_rfl) (by kernel_rfl) ?_
  have hu : ∀ u : Later w3.heap.size w3, Below w3.heap.size w3 u.world := Later.below
  repeat (go_big_quiet_step ((fail)))
  refine wpQuiet_nil ?_
  intro w4 b4
  have HN4 := Lib.hid (HN3.out.later b4)
  have HL4 := Lib.hid (HL3.out.later b4)
  clear d1 d4 hr hu HN3 HL3 b4 HW3
  obtain ⟨q6, hq6⟩ : ∃ q6, q4 + 1 = q6 := ⟨_, rfl⟩
  rw [hq6] at HN4
  rw [hq6]
  obtain ⟨q7, hq7⟩ : ∃ q7, q6 + 1 = q7 := ⟨_, rfl⟩
  rw [hq7] at HN4
  rw [hq7]
  clear hq6 hq7
  have d1 := HL4.out.blk.at9
  have d4 := HN4.out.e.at12
  have hr := Below.refl w4.heap.size w4
  have I4 : Hid (AdI B w w4 x t iv sv wv sc fr st rd tk ef n q4 q6 q7 #[.int .i64 4, .int .i64 0, .int .i64 vn, .int .i64 vt, .string b, .int .i64 er, .int .i64 s0, .int .i64 s1, .int .i64 s2, .int .i64 s3, .int .i64 s4, .int .i64 s5] #[.int .i64 0, .string ⟨#[]⟩, .int .i64 0, .int .i64 0] #[.int .i64 0, .string ⟨#[]⟩, .int .i64 0, .int .i64 0, .int .i64 0, .int .i64 0, .int .i64 0, .int .i64 0, .bool false]) := Lib.hid ⟨HL4.out, HN4.out.e, HN4.out.i, HN4.out.o, Foot.later HN4.out.bl, HN4.out.lo, HOLD.out.1, HOLD.out.2.1, HOLD.out.2.2.1, HOLD.out.2.2.2.2⟩
  have s7 : w4.drew.cell? ⟨x, 5, none⟩ = some (.string rd) ∧ w4.drew.frozen? ⟨x, 5, none⟩ = false ∧ w4.drew.cell? ⟨q4, 4, none⟩ = some (.string b) := ⟨HL4.out.blk.drew.cell 5, HL4.out.blk.drew.frozen 5, HN4.out.e.drew.cell 4⟩
  have hz : ¬ 9223372036854775807 < rd.size + b.size := by have := HB.out; have := HL4.out.rs; omega
  clear HN4 HL4
  go_upto_region 7 with fail
  refine wp_region_ordL (S := fun w' => w'.cell? ⟨x, 5, none⟩ = some (.string rd) ∧ w'.frozen? ⟨x, 5, none⟩ = false ∧ w'.cell? ⟨q4, 4, none⟩ = some (.string b)) [0, 1, 2, 3, 4, 5, 6, 7, 8, 9] 9 (by kernel_rfl) (by kernel_rfl) (by kernel_rfl) (by kernel_rfl) (by kernel_rfl) (by kernel_rfl) (s7) ?_
  simp only [pickL, List.filterMap_cons, List.filterMap_nil, List.getElem?_cons_zero, List.getElem?_cons_succ]
  repeat (refine ordL_take (v := ?_) (by rfl) (by rfl) ?_ ?_; rotate_left; (focus (intro w hSw; (try dsimp only at hSw); go_simp; (try with_reducible rfl))); simp only [Act.put, List.setIfInBounds_toArray, List.set_cons_zero, List.set_cons_succ])
  refine ordL_lone (by rfl) (by rfl) (fun KK hK => ?_)
  try go_simp
  refine hK.out _ _ (.inl (by trivial)) ?_
  clear hK KK
  try simp only [Act.put, List.setIfInBounds_toArray, List.set_cons_zero, List.set_cons_succ]
  refine ordL_done ?_
  obtain ⟨w5, hw5⟩ : ∃ w5, w5 = (w4.setCell ⟨x, 5, none⟩ (.string (rd ++ b))).drew := ⟨_, rfl⟩
  have I5 : Hid (AdI B w w5 x t iv sv wv sc fr st (rd ++ b) tk ef (n + 1) q4 q6 q7 #[.int .i64 4, .int .i64 0, .int .i64 vn, .int .i64 vt, .string b, .int .i64 er, .int .i64 s0, .int .i64 s1, .int .i64 s2, .int .i64 s3, .int .i64 s4, .int .i64 s5] #[.int .i64 0, .string ⟨#[]⟩, .int .i64 0, .int .i64 0] #[.int .i64 0, .string ⟨#[]⟩, .int .i64 0, .int .i64 0, .int .i64 0, .int .i64 0, .int .i64 0, .int .i64 0, .bool false]) := Lib.hid (by
    have hb := I4.out.l.blk.set_ 5 (.string (rd ++ b))
    have h1 := I4.out.l.rs
    have h2 := I4.out.l.ts
    have h3 := HB.out
    rw [hw5]
    exact (I4.out.own (foot_set (fun i => i = x) (Foot.refl _ w4) x 5 rfl _) hb (Nat.le_succ n) (by rw [ByteArray.size_append]; omega) (by omega)).later (Below.refl _ _).drew)
  rw [← hw5]
  clear hw5 I4 s7 hz d1 d4 hr
  have s8 : w5.drew.cell? ⟨q4, 4, none⟩ = some (.string b) := I5.out.e.drew.cell 4
  have d6 := I5.out.i.at4
  have d7 := I5.out.o.at9
  have hr := Below.refl w5.heap.size w5
  go_upto_region 8 with fail
  refine wp_region_ordL (S := fun w' => w'.cell? ⟨q4, 4, none⟩ = some (.string b)) [0, 1, 2, 3, 4, 5, 6, 7, 8] 8 (by kernel_rfl) (by kernel_rfl) (by kernel_rfl) (by kernel_rfl) (by kernel_rfl) (by kernel_rfl) (s8) ?_
  simp only [pickL, List.filterMap_cons, List.filterMap_nil, List.getElem?_cons_zero, List.getElem?_cons_succ]
  repeat (refine ordL_take (v := ?_) (by rfl) (by rfl) ?_ ?_; rotate_left; (focus (intro w hSw; (try dsimp only at hSw); go_simp; (try with_reducible rfl))); simp only [Act.put, List.setIfInBounds_toArray, List.set_cons_zero, List.set_cons_succ])
  refine ordL_lone (by rfl) (by rfl) (fun KK hK => ?_)
  try go_simp
  obtain ⟨w6, hw6⟩ : ∃ w6, w6 = ((((w5.setCell ⟨q6, 0, none⟩ (.int .i64 1)).setCell ⟨q6, 1, none⟩ (.string b)).setCell ⟨q6, 2, none⟩ (.int .i64 0)).setCell ⟨q6, 3, none⟩ (.int .i64 0)).drew := ⟨_, rfl⟩
  have I6 : Hid (AdI B w w6 x t iv sv wv sc fr st (rd ++ b) tk ef (n + 1) q4 q6 q7 #[.int .i64 4, .int .i64 0, .int .i64 vn, .int .i64 vt, .string b, .int .i64 er, .int .i64 s0, .int .i64 s1, .int .i64 s2, .int .i64 s3, .int .i64 s4, .int .i64 s5] #[.int .i64 1, .string b, .int .i64 0, .int .i64 0] #[.int .i64 0, .string ⟨#[]⟩, .int .i64 0, .int .i64 0, .int .i64 0, .int .i64 0, .int .i64 0, .int .i64 0, .bool false]) := Lib.hid (by
    rw [hw6]
    exact (I5.out.setI HB.out.1 (foot_set4 (F := fun i => i = q6) (Foot.refl _ w5) rfl _ _ _ _) (blk_set4 I5.out.i _ _ _ _)).later (Below.refl _ _).drew)
  rw [← hw6]
  clear hw6 I5 d6 d7 hr
  have d7 := I6.out.o.at9
  have hr := Below.refl w6.heap.size w6
  refine hK.out _ _ (.inr (I6.out.e.cell 4)) ?_
  clear hK KK s8
  try simp only [Act.put, List.setIfInBounds_toArray, List.set_cons_zero, List.set_cons_succ]
  repeat (refine ordL_take (v := ?_) (by rfl) (by rfl) ?_ ?_; rotate_left; (focus (intro w hSw; (try dsimp only at hSw); go_simp; (try with_reducible rfl))); simp only [Act.put, List.setIfInBounds_toArray, List.set_cons_zero, List.set_cons_succ])
  refine ordL_lone (by rfl) (by rfl) (fun KK hK => ?_)
  try go_simp
  refine hK.out _ _ (.inl (by trivial)) ?_
  clear hK KK
  try simp only [Act.put, List.setIfInBounds_toArray, List.set_cons_zero, List.set_cons_succ]
  refine ordL_done ?_
  obtain ⟨w7, hw7⟩ : ∃ w7, w7 = w6.setCell ⟨q7, 0, none⟩ (.int .i64 b.size) := ⟨_, rfl⟩
  have I7 : Hid (AdI B w w7 x t iv sv wv sc fr st (rd ++ b) tk ef (n + 1) q4 q6 q7 #[.int .i64 4, .int .i64 0, .int .i64 vn, .int .i64 vt, .string b, .int .i64 er, .int .i64 s0, .int .i64 s1, .int .i64 s2, .int .i64 s3, .int .i64 s4, .int .i64 s5] #[.int .i64 1, .string b, .int .i64 0, .int .i64 0] #[.int .i64 b.size, .string ⟨#[]⟩, .int .i64 0, .int .i64 0, .int .i64 0, .int .i64 0, .int .i64 0, .int .i64 0, .bool false]) := Lib.hid (by
    rw [hw7]
    exact I6.out.setO HB.out.1 (foot_set (fun i => i = q7) (Foot.refl _ w6) q7 0 rfl _) (I6.out.o.set_ 0 _))
  rw [← hw7]
  clear hw7 I6 d7 hr
  obtain ⟨evc, hevc⟩ : ∃ evc : Array Value, evc = #[.int .i64 4, .int .i64 0, .int .i64 vn, .int .i64 vt, .string b, .int .i64 er, .int .i64 s0, .int .i64 s1, .int .i64 s2, .int .i64 s3, .int .i64 s4, .int .i64 s5] := ⟨_, rfl⟩
  rw [← hevc] at I7
  clear hevc
  obtain ⟨mi, xsi, hmi, oi⟩ := I7.out.l.ir
  obtain ⟨ai, ci, hvi, _⟩ := orow_form oi
  subst hvi
  have OI := Lib.hid oi
  have HMI := Lib.hid hmi
  clear oi hmi
  have MK18 : Hid (∀ w', ∀ cs : Array Value, Blk w' x 51 cs → cs[3]? = some (.slice ai mi ci) → Blk w' q6 107 #[.int .i64 1, .string b, .int .i64 0, .int .i64 0] → (w'.cell? ⟨x, 3, none⟩ = some (.slice ai mi ci) ∧ w'.frozen? ⟨x, 3, none⟩ = false ∧ w'.cell? ⟨q6, 0, none⟩ = some (.int .i64 1) ∧ w'.cell? ⟨q6, 1, none⟩ = some (.string b) ∧ w'.cell? ⟨q6, 2, none⟩ = some (.int .i64 0) ∧ w'.cell? ⟨q6, 3, none⟩ = some (.int .i64 0))) := Lib.hid fun w' cs k1 hc k2 => ⟨(k1.cell 3).trans hc, k1.frozen 3, k2.cell 0, k2.cell 1, k2.cell 2, k2.cell 3⟩
  have s18 : w7.drew.cell? ⟨x, 3, none⟩ = some (.slice ai mi ci) ∧ w7.drew.frozen? ⟨x, 3, none⟩ = false ∧ w7.drew.cell? ⟨q6, 0, none⟩ = some (.int .i64 1) ∧ w7.drew.cell? ⟨q6, 1, none⟩ = some (.string b) ∧ w7.drew.cell? ⟨q6, 2, none⟩ = some (.int .i64 0) ∧ w7.drew.cell? ⟨q6, 3, none⟩ = some (.int .i64 0) := MK18.out _ _ I7.out.l.blk.drew rfl I7.out.i.drew
  go_upto_region 18 with fail
  refine wp_region_ordL (S := fun w' => w'.cell? ⟨x, 3, none⟩ = some (.slice ai mi ci) ∧ w'.frozen? ⟨x, 3, none⟩ = false ∧ w'.cell? ⟨q6, 0, none⟩ = some (.int .i64 1) ∧ w'.cell? ⟨q6, 1, none⟩ = some (.string b) ∧ w'.cell? ⟨q6, 2, none⟩ = some (.int .i64 0) ∧ w'.cell? ⟨q6, 3, none⟩ = some (.int .i64 0)) [0, 1, 2, 3, 4, 5, 6, 7, 8, 9, 10] 10 (by kernel_rfl) (by kernel_rfl) (by kernel_rfl) (by kernel_rfl) (by kernel_rfl) (by kernel_rfl) (s18) ?_
  simp only [pickL, List.filterMap_cons, List.filterMap_nil, List.getElem?_cons_zero, List.getElem?_cons_succ]
  repeat (refine ordL_take (v := ?_) (by rfl) (by rfl) ?_ ?_; rotate_left; (focus (intro w hSw; (try dsimp only at hSw); go_simp; (try with_reducible rfl))); simp only [Act.put, List.setIfInBounds_toArray, List.set_cons_zero, List.set_cons_succ])
  have I18 : Hid (AdI B w (w7.drew.alloc (.cells #[.int .i64 1, .string b, .int .i64 0, .int .i64 0] 107)) x t (.slice ai mi ci) sv wv sc fr st (rd ++ b) tk ef (n + 1) q4 q6 q7 evc #[.int .i64 1, .string b, .int .i64 0, .int .i64 0] #[.int .i64 b.size, .string ⟨#[]⟩, .int .i64 0, .int .i64 0, .int .i64 0, .int .i64 0, .int .i64 0, .int .i64 0, .bool false]) := Lib.hid (I7.out.later (Below.alloc (Below.refl w7.heap.size w7).drew (Nat.le_refl _) _))
  refine ordL_lone (by rfl) (by rfl) (fun KK hK => ?_)
  try go_simp
  refine hK.out (_) (w7.drew.alloc (.cells #[.int .i64 1, .string b, .int .i64 0, .int .i64 0] 107)) (.inr (MK18.out _ _ I18.out.l.blk rfl I18.out.i)) ?_
  clear hK KK
  try simp only [Act.put, List.setIfInBounds_toArray, List.set_cons_zero, List.set_cons_succ]
  refine ordL_lone (by rfl) (by rfl) (fun KK hK => ?_)
  refine wp_append1 (B := B) info_Input rfl (by decide) (by decide) Tryz.underlying48 (.tmp 111) (.tmp 113) rfl (.slice ai mi ci) mi xsi rfl (orow_later OI.out (Below.alloc (Below.refl w7.heap.size w7).drew (Nat.le_refl _) _)) w7.drew.heap.size rfl [.int .i64 1, .string b, .int .i64 0, .int .i64 0] rfl ?a1 ?a2 ?a4 ?a5 ?a3
  case a1 => intro j u hj; exact ((Blk.new w7.drew 107 #[.int .i64 1, .string b, .int .i64 0, .int .i64 0]).cell j).trans (by simpa using hj)
  case a2 =>
    intro u hu
    simp only [List.mem_cons, List.not_mem_nil, or_false] at hu
    rcases hu with rfl | rfl | rfl | rfl <;> rfl
  case a4 => have := HMI.out; have := HB.out; omega
  case a5 => have := I18.out.f.size; have := HB.out; omega
  case a3 =>
  intro ai2 ci2 w8 o8 g8 gr8
  have fg : Foot (fun i => Value.ownBlock (.slice ai mi ci) = some i) (w7.drew.alloc (.cells #[.int .i64 1, .string b, .int .i64 0, .int .i64 0] 107)) w8 := Foot.grown g8 (fun _ e => e)
  have kx8 := I18.out.l.blk.foot fg (fun e => by obtain ⟨_, hc⟩ := I18.out.l.ir.kind e; exact (hc.type_ne I18.out.l.blk (by decide)) rfl)
  have kq8 := I18.out.i.foot fg (fun e => I18.out.ne6.2.2.1 e)
  have ko8 := I18.out.o.foot fg (fun e => I18.out.ne7.2.2.1 e)
  have L9 := (I18.out.l.more (Nat.le_succ (n + 1))).grewI g8 ⟨mi + 1, _, Nat.succ_le_succ HMI.out, o8⟩ (fun g hg => by
    rcases gr8 g hg with h | h
    · obtain ⟨_, hc⟩ := I18.out.l.ir.kind h
      exact ⟨hc.type_ne I18.out.l.blk (by decide), hc.type_ne I18.out.l.wan (by decide)⟩
    · have h1 := I18.out.l.blk.lt; have h2 := I18.out.l.wan.lt; exact ⟨by omega, by omega⟩)
  refine hK.out _ _ (.inr (MK18.out _ _ kx8 rfl kq8)) ?_
  clear hK KK
  have d8 : ∀ w', Below w8.heap.size w8 w' → w'.cell? ⟨x, 3, none⟩ = some (.slice ai mi ci) ∧ w'.frozen? ⟨x, 3, none⟩ = false := fun w' hb => ⟨(kx8.later hb).cell 3, (kx8.later hb).frozen 3⟩
  have hr8 := Below.refl w8.heap.size w8
  try simp only [Act.put, List.setIfInBounds_toArray, List.set_cons_zero, List.set_cons_succ]
  repeat (refine ordL_take (v := ?_) (by rfl) (by rfl) ?_ ?_; rotate_left; (focus (intro w hSw; (try dsimp only at hSw); go_simp; (try with_reducible rfl))); simp only [Act.put, List.setIfInBounds_toArray, List.set_cons_zero, List.set_cons_succ])
  refine ordL_lone (by rfl) (by rfl) (fun KK hK => ?_)
  try go_simp
  refine hK.out _ _ (.inl (by trivial)) ?_
  clear hK KK
  try simp only [Act.put, List.setIfInBounds_toArray, List.set_cons_zero, List.set_cons_succ]
  refine ordL_done ?_
  obtain ⟨w9, hw9⟩ : ∃ w9, w9 = w8.setCell ⟨x, 3, none⟩ (.slice ai2 (mi + 1) ci2) := ⟨_, rfl⟩
  rw [← hw9] at L9
  have fx : Foot (fun i => i = x) w8 w9 := by rw [hw9]; exact foot_set (fun i => i = x) (Foot.refl _ w8) x 3 rfl _
  have hxq : x < w.heap.size := I18.out.old.1
  have ko9 := ko8.foot fx (by show ¬ q7 = x; have := I18.out.lo; omega)
  have F9 : Hid (Foot (fun i => B ≤ i) w w9) := Lib.hid ((I18.out.f.trans (fg.mono fun i hi => (I18.out.l.ir.lt hi).1)).trans (fx.mono fun i hi => by rw [hi]; exact I18.out.l.lo.1))
  have HL9 := Lib.hid L9
  have HO9 := Lib.hid ko9
  have HT9 : Hid (t < w.heap.size ∧ w.heap.size ≤ q7) := Lib.hid ⟨I18.out.old.2.1, by have := I18.out.lo; omega⟩
  rw [← hw9]
  clear d8 hr8 hw9 fx hxq ko9 L9 fg kx8 kq8 ko8 gr8 g8 o8 I18 s18 MK18 OI I7
  obtain ⟨mw, xsw, hmw, ow⟩ := HL9.out.wr
  obtain ⟨aw, cw, hvw, _⟩ := orow_form ow
  subst hvw
  have OW := Lib.hid ow
  have HMW := Lib.hid hmw
  clear ow hmw
  have MK19 : Hid (∀ w', Blk w' t 61 #[.slice aw mw cw] → Blk w' q7 109 #[.int .i64 b.size, .string ⟨#[]⟩, .int .i64 0, .int .i64 0, .int .i64 0, .int .i64 0, .int .i64 0, .int .i64 0, .bool false] → (w'.cell? ⟨t, 0, none⟩ = some (.slice aw mw cw) ∧ w'.frozen? ⟨t, 0, none⟩ = false ∧ w'.cell? ⟨q7, 0, none⟩ = some (.int .i64 b.size) ∧ w'.cell? ⟨q7, 1, none⟩ = some (.string ⟨#[]⟩) ∧ w'.cell? ⟨q7, 2, none⟩ = some (.int .i64 0) ∧ w'.cell? ⟨q7, 3, none⟩ = some (.int .i64 0) ∧ w'.cell? ⟨q7, 4, none⟩ = some (.int .i64 0) ∧ w'.cell? ⟨q7, 5, none⟩ = some (.int .i64 0) ∧ w'.cell? ⟨q7, 6, none⟩ = some (.int .i64 0) ∧ w'.cell? ⟨q7, 7, none⟩ = some (.int .i64 0) ∧ w'.cell? ⟨q7, 8, none⟩ = some (.bool false))) := Lib.hid fun w' k1 k2 => ⟨k1.cell 0, k1.frozen 0, k2.cell 0, k2.cell 1, k2.cell 2, k2.cell 3, k2.cell 4, k2.cell 5, k2.cell 6, k2.cell 7, k2.cell 8⟩
  have s19 : w9.drew.cell? ⟨t, 0, none⟩ = some (.slice aw mw cw) ∧ w9.drew.frozen? ⟨t, 0, none⟩ = false ∧ w9.drew.cell? ⟨q7, 0, none⟩ = some (.int .i64 b.size) ∧ w9.drew.cell? ⟨q7, 1, none⟩ = some (.string ⟨#[]⟩) ∧ w9.drew.cell? ⟨q7, 2, none⟩ = some (.int .i64 0) ∧ w9.drew.cell? ⟨q7, 3, none⟩ = some (.int .i64 0) ∧ w9.drew.cell? ⟨q7, 4, none⟩ = some (.int .i64 0) ∧ w9.drew.cell? ⟨q7, 5, none⟩ = some (.int .i64 0) ∧ w9.drew.cell? ⟨q7, 6, none⟩ = some (.int .i64 0) ∧ w9.drew.cell? ⟨q7, 7, none⟩ = some (.int .i64 0) ∧ w9.drew.cell? ⟨q7, 8, none⟩ = some (.bool false) := MK19.out _ HL9.out.wan.drew HO9.out.drew
  go_upto_region 19 with fail
  refine wp_region_ordL (S := fun w' => w'.cell? ⟨t, 0, none⟩ = some (.slice aw mw cw) ∧ w'.frozen? ⟨t, 0, none⟩ = false ∧ w'.cell? ⟨q7, 0, none⟩ = some (.int .i64 b.size) ∧ w'.cell? ⟨q7, 1, none⟩ = some (.string ⟨#[]⟩) ∧ w'.cell? ⟨q7, 2, none⟩ = some (.int .i64 0) ∧ w'.cell? ⟨q7, 3, none⟩ = some (.int .i64 0) ∧ w'.cell? ⟨q7, 4, none⟩ = some (.int .i64 0) ∧ w'.cell? ⟨q7, 5, none⟩ = some (.int .i64 0) ∧ w'.cell? ⟨q7, 6, none⟩ = some (.int .i64 0) ∧ w'.cell? ⟨q7, 7, none⟩ = some (.int .i64 0) ∧ w'.cell? ⟨q7, 8, none⟩ = some (.bool false)) [0, 1, 2, 3, 4, 5, 6, 7, 8] 8 (by kernel_rfl) (by kernel_rfl) (by kernel_rfl) (by kernel_rfl) (by kernel_rfl) (by kernel_rfl) (s19) ?_
  simp only [pickL, List.filterMap_cons, List.filterMap_nil, List.getElem?_cons_zero, List.getElem?_cons_succ]
  repeat (refine ordL_take (v := ?_) (by rfl) (by rfl) ?_ ?_; rotate_left; (focus (intro w hSw; (try dsimp only at hSw); go_simp; (try with_reducible rfl))); simp only [Act.put, List.setIfInBounds_toArray, List.set_cons_zero, List.set_cons_succ])
  have L19 := Lib.hid (HL9.out.later (Below.alloc (Below.refl w9.heap.size w9).drew (Nat.le_refl _) (.cells #[.int .i64 b.size, .string ⟨#[]⟩, .int .i64 0, .int .i64 0, .int .i64 0, .int .i64 0, .int .i64 0, .int .i64 0, .bool false] 109)))
  have O19 := Lib.hid (HO9.out.later (Below.alloc (Below.refl w9.heap.size w9).drew (Nat.le_refl _) (.cells #[.int .i64 b.size, .string ⟨#[]⟩, .int .i64 0, .int .i64 0, .int .i64 0, .int .i64 0, .int .i64 0, .int .i64 0, .bool false] 109)))
  refine ordL_lone (by rfl) (by rfl) (fun KK hK => ?_)
  try go_simp
  refine hK.out (_) (w9.drew.alloc (.cells #[.int .i64 b.size, .string ⟨#[]⟩, .int .i64 0, .int .i64 0, .int .i64 0, .int .i64 0, .int .i64 0, .int .i64 0, .bool false] 109)) (.inr (MK19.out _ L19.out.wan O19.out)) ?_
  clear hK KK
  try simp only [Act.put, List.setIfInBounds_toArray, List.set_cons_zero, List.set_cons_succ]
  refine ordL_lone (by rfl) (by rfl) (fun KK hK => ?_)
  refine wp_append1 (B := B) info_Out rfl (by decide) (by decide) Tryz.underlying61 (.tmp 120) (.tmp 122) rfl (.slice aw mw cw) mw xsw rfl (orow_later OW.out (Below.alloc (Below.refl w9.heap.size w9).drew (Nat.le_refl _) _)) w9.drew.heap.size rfl [.int .i64 b.size, .string ⟨#[]⟩, .int .i64 0, .int .i64 0, .int .i64 0, .int .i64 0, .int .i64 0, .int .i64 0, .bool false] rfl ?b1 ?b2 ?b4 ?b5 ?b3
  case b1 => intro j u hj; exact ((Blk.new w9.drew 109 #[.int .i64 b.size, .string ⟨#[]⟩, .int .i64 0, .int .i64 0, .int .i64 0, .int .i64 0, .int .i64 0, .int .i64 0, .bool false]).cell j).trans (by simpa using hj)
  case b2 =>
    intro u hu
    simp only [List.mem_cons, List.not_mem_nil, or_false] at hu
    rcases hu with rfl | rfl | rfl | rfl | rfl | rfl | rfl | rfl | rfl <;> rfl
  case b4 => have := HMW.out; have := HB.out; omega
  case b5 =>
    have h1 := F9.out.size
    have h2 := HB.out
    have h3 := (Below.alloc (Below.refl w9.heap.size w9).drew (Nat.le_refl _) (.cells #[.int .i64 b.size, .string ⟨#[]⟩, .int .i64 0, .int .i64 0, .int .i64 0, .int .i64 0, .int .i64 0, .int .i64 0, .bool false] 109)).size
    omega
  case b3 =>
  intro aw2 cw2 w10 o10 g10 gr10
  have fg : Foot (fun i => Value.ownBlock (.slice aw mw cw) = some i) (w9.drew.alloc (.cells #[.int .i64 b.size, .string ⟨#[]⟩, .int .i64 0, .int .i64 0, .int .i64 0, .int .i64 0, .int .i64 0, .int .i64 0, .bool false] 109)) w10 := Foot.grown g10 (fun _ e => e)
  have hold := HL9.out.old
  have kt10 := L19.out.wan.foot fg (fun e => by obtain ⟨_, hc⟩ := L19.out.wr.kind e; exact (hc.type_ne L19.out.wan (by decide)) rfl)
  have hq7 : ¬ Value.ownBlock (.slice aw mw cw) = some q7 := fun e => by
    have h1 := HOLD.out.2.2.2.2 q7 e
    have h2 := HT9.out.2
    omega
  have kq10 := O19.out.foot fg hq7
  have L11 := (L19.out.more (Nat.le_succ ((n + 1) + 1))).grewW g10 ⟨mw + 1, _, Nat.succ_le_succ HMW.out, o10⟩ (fun g hg => by
    rcases gr10 g hg with h | h
    · obtain ⟨_, hc⟩ := L19.out.wr.kind h
      exact ⟨hc.type_ne L19.out.blk (by decide), hc.type_ne L19.out.wan (by decide)⟩
    · have h1 := L19.out.blk.lt; have h2 := L19.out.wan.lt; exact ⟨by omega, by omega⟩)
  refine hK.out _ _ (.inr (MK19.out _ kt10 kq10)) ?_
  clear hK KK
  have d10 : ∀ w', Below w10.heap.size w10 w' → w'.cell? ⟨t, 0, none⟩ = some (.slice aw mw cw) ∧ w'.frozen? ⟨t, 0, none⟩ = false := fun w' hb => ⟨(kt10.later hb).cell 0, (kt10.later hb).frozen 0⟩
  have hr10 := Below.refl w10.heap.size w10
  try simp only [Act.put, List.setIfInBounds_toArray, List.set_cons_zero, List.set_cons_succ]
  repeat (refine ordL_take (v := ?_) (by rfl) (by rfl) ?_ ?_; rotate_left; (focus (intro w hSw; (try dsimp only at hSw); go_simp; (try with_reducible rfl))); simp only [Act.put, List.setIfInBounds_toArray, List.set_cons_zero, List.set_cons_succ])
  refine ordL_lone (by rfl) (by rfl) (fun KK hK => ?_)
  try go_simp
  refine hK.out _ _ (.inl (by trivial)) ?_
  clear hK KK
  try simp only [Act.put, List.setIfInBounds_toArray, List.set_cons_zero, List.set_cons_succ]
  refine ordL_done ?_
  have F11 : Foot (fun i => B ≤ i) w (w10.setCell ⟨t, 0, none⟩ (.slice aw2 (mw + 1) cw2)) := ((F9.out.up (Below.alloc (Below.refl w9.heap.size w9).drew (Nat.le_refl _) _)).trans (fg.mono fun i hi => (L19.out.wr.lt hi).1)).trans (foot_set (fun i => B ≤ i) (Foot.refl _ w10) t 0 L19.out.lo.2 _)
  have HL11 := Lib.hid L11
  have HF11 := Lib.hid F11
  clear d10 hr10 L11 F11 fg hold kt10 kq10 gr10 g10 o10 s19
  go_wp2_with fail
  (try simp only [Exit.inBlock, Exit.then])
  go_end0
  exact ⟨rfl, _, _, _, HL11.out, HF11.out⟩
set_option maxRecDepth 100000 in
set_option maxHeartbeats 8000000 in
theorem adWrite {B : Nat} {w : World} {x t : Nat} {iv sv wv : Value} {sc fr st : Int} {rd tk : ByteArray} {ef : Bool} {n : Nat} (h : LifeI B w x t iv sv wv sc fr st rd tk ef n) (hB : B ≤ w.heap.size) (v : EvT) (hi : v.i = 0) (hk : v.k = 6) (hv : v.b.size ≤ 1000) (hn : n ≤ 300000) :
    Calls Tryz.prog 19 #[.pointer (some ⟨x, 0, none⟩), .agg v.cells.toArray, .pointer (some ⟨t, 0, none⟩)] w fun e w' => e = .returned (.tuple #[]) ∧ ∃ iv' sv' wv' tk', LifeI B w' x t iv' sv' wv' sc fr st rd tk' ef (n + 3) ∧ Foot (fun i => B ≤ i) w w' := by
  obtain ⟨k, i, vn, vt, b, er, s0, s1, s2, s3, s4, s5⟩ := v
  simp only at hi hk hv
  subst hi
  obtain rfl : k = 6 := hk
  unfold EvT.cells
  simp only
  obtain ⟨q4, hq4⟩ : ∃ q, w.heap.size = q := ⟨_, rfl⟩
  obtain ⟨wa, hwa⟩ : ∃ wa, wa = w.alloc (.cells #[.int .i64 6, .int .i64 0, .int .i64 vn, .int .i64 vt, .string b, .int .i64 er, .int .i64 s0, .int .i64 s1, .int .i64 s2, .int .i64 s3, .int .i64 s4, .int .i64 s5] 69) := ⟨_, rfl⟩
  have Ka : Blk wa q4 69 #[.int .i64 6, .int .i64 0, .int .i64 vn, .int .i64 vt, .string b, .int .i64 er, .int .i64 s0, .int .i64 s1, .int .i64 s2, .int .i64 s3, .int .i64 s4, .int .i64 s5] := by rw [hwa, ← hq4]; exact Blk.new _ _ _
  have ba : Below w.heap.size w wa := by rw [hwa]; exact Below.alloc (Below.refl _ _) (Nat.le_refl _) _
  have sa : wa.heap.size = q4 + 1 := by rw [hwa, ← hq4]; simp
  obtain ⟨wb, hwb⟩ : ∃ wb, wb = wa.alloc (.cells #[.int .i64 0, .string ⟨#[]⟩, .int .i64 0, .int .i64 0] 107) := ⟨_, rfl⟩
  have Kb : Blk wb (q4 + 1) 107 #[.int .i64 0, .string ⟨#[]⟩, .int .i64 0, .int .i64 0] := by rw [hwb, ← sa]; exact Blk.new _ _ _
  have bb : Below wa.heap.size wa wb := by rw [hwb]; exact Below.alloc (Below.refl _ _) (Nat.le_refl _) _
  have sb : wb.heap.size = q4 + 2 := by rw [hwb]; simp [sa]
  obtain ⟨w3, hw3⟩ : ∃ w3, w3 = wb.alloc (.cells #[.int .i64 0, .string ⟨#[]⟩, .int .i64 0, .int .i64 0, .int .i64 0, .int .i64 0, .int .i64 0, .int .i64 0, .bool false] 109) := ⟨_, rfl⟩
  have Kc : Blk w3 (q4 + 2) 109 #[.int .i64 0, .string ⟨#[]⟩, .int .i64 0, .int .i64 0, .int .i64 0, .int .i64 0, .int .i64 0, .int .i64 0, .bool false] := by rw [hw3, ← sb]; exact Blk.new _ _ _
  have bc : Below wb.heap.size wb w3 := by rw [hw3]; exact Below.alloc (Below.refl _ _) (Nat.le_refl _) _
  have HN3 : Hid (AdN w w3 q4 (q4 + 1) (q4 + 1 + 1) 6 vn vt b er s0 s1 s2 s3 s4 s5) := Lib.hid ⟨(ba.up bb).up bc, (Ka.later bb).later bc, Kb.later bc, Kc, by omega⟩
  have hw3' : w3 = ((w.alloc (.cells #[.int .i64 6, .int .i64 0, .int .i64 vn, .int .i64 vt, .string b, .int .i64 er, .int .i64 s0, .int .i64 s1, .int .i64 s2, .int .i64 s3, .int .i64 s4, .int .i64 s5] 69)).alloc (.cells #[.int .i64 0, .string ⟨#[]⟩, .int .i64 0, .int .i64 0] 107)).alloc (.cells #[.int .i64 0, .string ⟨#[]⟩, .int .i64 0, .int .i64 0, .int .i64 0, .int .i64 0, .int .i64 0, .int .i64 0, .bool false] 109) := by rw [hw3, hwb, hwa]
  have HW3 := Lib.hid hw3'
  have HL3 := Lib.hid (h.later HN3.out.bl)
  have HOLD := Lib.hid h.old
  have HQ := Lib.hid hq4
  have HB := Lib.hid (And.intro hB (And.intro hv hn))
  have hst := h.blk
  have d : ∀ w', Below w.heap.size w w' → w'.cell? ⟨x, 8, none⟩ = some (.int .i64 st) := fun w' hb => (hst.later hb).cell 8
  have hr := Below.refl w.heap.size w
  clear hst hw3' hw3 hwb hwa Ka ba sa Kb bb sb Kc bc h hB hv hn hq4
  go_enter Tryz.func19, Tryz.ntmps19
  go_upto_region 3 with fail
  clear d hr
  rw [← HW3.out, HQ.out]
  have d1 := HL3.out.blk.at9
  have d4 := HN3.out.e.at12
  have hr := Below.refl w3.heap.size w3
  go_upto_region 5 with fail
  refine wp_region_later w3.heap.size (by kernel_rfl) (by kernel_rfl) ?_
  have hu : ∀ u : Later w3.heap.size w3, Below w3.heap.size w3 u.world := Later.below
  repeat (go_big_quiet_step ((fail)))
  refine wpQuiet_nil ?_
  intro w4 b4
  have HN4 := Lib.hid (HN3.out.later b4)
  have HL4 := Lib.hid (HL3.out.later b4)
  clear d1 d4 hr hu HN3 HL3 b4 HW3
  obtain ⟨q6, hq6⟩ : ∃ q6, q4 + 1 = q6 := ⟨_, rfl⟩
  rw [hq6] at HN4
  rw [hq6]
  obtain ⟨q7, hq7⟩ : ∃ q7, q6 + 1 = q7 := ⟨_, rfl⟩
  rw [hq7] at HN4
  rw [hq7]
  clear hq6 hq7
  have d1 := HL4.out.blk.at9
  have d4 := HN4.out.e.at12
  have hr := Below.refl w4.heap.size w4
  have I4 : Hid (AdI B w w4 x t iv sv wv sc fr st rd tk ef n q4 q6 q7 #[.int .i64 6, .int .i64 0, .int .i64 vn, .int .i64 vt, .string b, .int .i64 er, .int .i64 s0, .int .i64 s1, .int .i64 s2, .int .i64 s3, .int .i64 s4, .int .i64 s5] #[.int .i64 0, .string ⟨#[]⟩, .int .i64 0, .int .i64 0] #[.int .i64 0, .string ⟨#[]⟩, .int .i64 0, .int .i64 0, .int .i64 0, .int .i64 0, .int .i64 0, .int .i64 0, .bool false]) := Lib.hid ⟨HL4.out, HN4.out.e, HN4.out.i, HN4.out.o, Foot.later HN4.out.bl, HN4.out.lo, HOLD.out.1, HOLD.out.2.1, HOLD.out.2.2.1, HOLD.out.2.2.2.2⟩
  have s7 : w4.drew.cell? ⟨x, 6, none⟩ = some (.string tk) ∧ w4.drew.frozen? ⟨x, 6, none⟩ = false ∧ w4.drew.cell? ⟨q4, 4, none⟩ = some (.string b) := ⟨HL4.out.blk.drew.cell 6, HL4.out.blk.drew.frozen 6, HN4.out.e.drew.cell 4⟩
  have hz : ¬ 9223372036854775807 < tk.size + b.size := by have := HB.out; have := HL4.out.ts; omega
  clear HN4 HL4
  go_upto_region 13 with fail
  refine wp_region_ordL (S := fun w' => w'.cell? ⟨x, 6, none⟩ = some (.string tk) ∧ w'.frozen? ⟨x, 6, none⟩ = false ∧ w'.cell? ⟨q4, 4, none⟩ = some (.string b)) [0, 1, 2, 3, 4, 5, 6, 7, 8, 9] 9 (by kernel_rfl) (by kernel_rfl) (by kernel_rfl) (by kernel_rfl) (by kernel_rfl) (by kernel_rfl) (s7) ?_
  simp only [pickL, List.filterMap_cons, List.filterMap_nil, List.getElem?_cons_zero, List.getElem?_cons_succ]
  repeat (refine ordL_take (v := ?_) (by rfl) (by rfl) ?_ ?_; rotate_left; (focus (intro w hSw; (try dsimp only at hSw); go_simp; (try with_reducible rfl))); simp only [Act.put, List.setIfInBounds_toArray, List.set_cons_zero, List.set_cons_succ])
  refine ordL_lone (by rfl) (by rfl) (fun KK hK => ?_)
  try go_simp
  refine hK.out _ _ (.inl (by trivial)) ?_
  clear hK KK
  try simp only [Act.put, List.setIfInBounds_toArray, List.set_cons_zero, List.set_cons_succ]
  refine ordL_done ?_
  obtain ⟨w5, hw5⟩ : ∃ w5, w5 = (w4.setCell ⟨x, 6, none⟩ (.string (tk ++ b))).drew := ⟨_, rfl⟩
  have I5 : Hid (AdI B w w5 x t iv sv wv sc fr st rd (tk ++ b) ef (n + 1) q4 q6 q7 #[.int .i64 6, .int .i64 0, .int .i64 vn, .int .i64 vt, .string b, .int .i64 er, .int .i64 s0, .int .i64 s1, .int .i64 s2, .int .i64 s3, .int .i64 s4, .int .i64 s5] #[.int .i64 0, .string ⟨#[]⟩, .int .i64 0, .int .i64 0] #[.int .i64 0, .string ⟨#[]⟩, .int .i64 0, .int .i64 0, .int .i64 0, .int .i64 0, .int .i64 0, .int .i64 0, .bool false]) := Lib.hid (by
    have hb := I4.out.l.blk.set_ 6 (.string (tk ++ b))
    have h1 := I4.out.l.rs
    have h2 := I4.out.l.ts
    have h3 := HB.out
    rw [hw5]
    exact (I4.out.own (foot_set (fun i => i = x) (Foot.refl _ w4) x 6 rfl _) hb (Nat.le_succ n) (by omega) (by rw [ByteArray.size_append]; omega)).later (Below.refl _ _).drew)
  rw [← hw5]
  clear hw5 I4 s7 hz d1 d4 hr
  have s8 : w5.drew.cell? ⟨q4, 4, none⟩ = some (.string b) ∧ w5.drew.cell? ⟨q4, 2, none⟩ = some (.int .i64 vn) := ⟨I5.out.e.drew.cell 4, I5.out.e.drew.cell 2⟩
  have d6 := I5.out.i.at4
  have d7 := I5.out.o.at9
  have hr := Below.refl w5.heap.size w5
  go_upto_region 14 with fail
  refine wp_region_ordL (S := fun w' => w'.cell? ⟨q4, 4, none⟩ = some (.string b) ∧ w'.cell? ⟨q4, 2, none⟩ = some (.int .i64 vn)) [0, 1, 2, 3, 4, 5, 6, 7] 7 (by kernel_rfl) (by kernel_rfl) (by kernel_rfl) (by kernel_rfl) (by kernel_rfl) (by kernel_rfl) (s8) ?_
  simp only [pickL, List.filterMap_cons, List.filterMap_nil, List.getElem?_cons_zero, List.getElem?_cons_succ]
  repeat (refine ordL_take (v := ?_) (by rfl) (by rfl) ?_ ?_; rotate_left; (focus (intro w hSw; (try dsimp only at hSw); go_simp; (try with_reducible rfl))); simp only [Act.put, List.setIfInBounds_toArray, List.set_cons_zero, List.set_cons_succ])
  refine ordL_lone (by rfl) (by rfl) (fun KK hK => ?_)
  try go_simp
  obtain ⟨w6, hw6⟩ : ∃ w6, w6 = ((((w5.setCell ⟨q6, 0, none⟩ (.int .i64 3)).setCell ⟨q6, 1, none⟩ (.string ⟨#[]⟩)).setCell ⟨q6, 2, none⟩ (.int .i64 vn)).setCell ⟨q6, 3, none⟩ (.int .i64 0)).drew := ⟨_, rfl⟩
  have I6 : Hid (AdI B w w6 x t iv sv wv sc fr st rd (tk ++ b) ef (n + 1) q4 q6 q7 #[.int .i64 6, .int .i64 0, .int .i64 vn, .int .i64 vt, .string b, .int .i64 er, .int .i64 s0, .int .i64 s1, .int .i64 s2, .int .i64 s3, .int .i64 s4, .int .i64 s5] #[.int .i64 3, .string ⟨#[]⟩, .int .i64 vn, .int .i64 0] #[.int .i64 0, .string ⟨#[]⟩, .int .i64 0, .int .i64 0, .int .i64 0, .int .i64 0, .int .i64 0, .int .i64 0, .bool false]) := Lib.hid (by
    rw [hw6]
    exact (I5.out.setI HB.out.1 (foot_set4 (F := fun i => i = q6) (Foot.refl _ w5) rfl _ _ _ _) (blk_set4 I5.out.i _ _ _ _)).later (Below.refl _ _).drew)
  rw [← hw6]
  clear hw6 I5 d6 d7 hr
  have d7 := I6.out.o.at9
  have hr := Below.refl w6.heap.size w6
  refine hK.out _ _ (.inr ⟨I6.out.e.cell 4, I6.out.e.cell 2⟩) ?_
  clear hK KK s8
  try simp only [Act.put, List.setIfInBounds_toArray, List.set_cons_zero, List.set_cons_succ]
  repeat (refine ordL_take (v := ?_) (by rfl) (by rfl) ?_ ?_; rotate_left; (focus (intro w hSw; (try dsimp only at hSw); go_simp; (try with_reducible rfl))); simp only [Act.put, List.setIfInBounds_toArray, List.set_cons_zero, List.set_cons_succ])
  refine ordL_lone (by rfl) (by rfl) (fun KK hK => ?_)
  try go_simp
  refine hK.out _ _ (.inl (by trivial)) ?_
  clear hK KK
  try simp only [Act.put, List.setIfInBounds_toArray, List.set_cons_zero, List.set_cons_succ]
  refine ordL_done ?_
  obtain ⟨w7, hw7⟩ : ∃ w7, w7 = w6.setCell ⟨q7, 1, none⟩ (.string b) := ⟨_, rfl⟩
  have I7 : Hid (AdI B w w7 x t iv sv wv sc fr st rd (tk ++ b) ef (n + 1) q4 q6 q7 #[.int .i64 6, .int .i64 0, .int .i64 vn, .int .i64 vt, .string b, .int .i64 er, .int .i64 s0, .int .i64 s1, .int .i64 s2, .int .i64 s3, .int .i64 s4, .int .i64 s5] #[.int .i64 3, .string ⟨#[]⟩, .int .i64 vn, .int .i64 0] #[.int .i64 0, .string b, .int .i64 0, .int .i64 0, .int .i64 0, .int .i64 0, .int .i64 0, .int .i64 0, .bool false]) := Lib.hid (by
    rw [hw7]
    exact I6.out.setO HB.out.1 (foot_set (fun i => i = q7) (Foot.refl _ w6) q7 1 rfl _) (I6.out.o.set_ 1 _))
  rw [← hw7]
  clear hw7 I6 d7 hr
  obtain ⟨evc, hevc⟩ : ∃ evc : Array Value, evc = #[.int .i64 6, .int .i64 0, .int .i64 vn, .int .i64 vt, .string b, .int .i64 er, .int .i64 s0, .int .i64 s1, .int .i64 s2, .int .i64 s3, .int .i64 s4, .int .i64 s5] := ⟨_, rfl⟩
  rw [← hevc] at I7
  clear hevc
  obtain ⟨mi, xsi, hmi, oi⟩ := I7.out.l.ir
  obtain ⟨ai, ci, hvi, _⟩ := orow_form oi
  subst hvi
  have OI := Lib.hid oi
  have HMI := Lib.hid hmi
  clear oi hmi
  have MK18 : Hid (∀ w', ∀ cs : Array Value, Blk w' x 51 cs → cs[3]? = some (.slice ai mi ci) → Blk w' q6 107 #[.int .i64 3, .string ⟨#[]⟩, .int .i64 vn, .int .i64 0] → (w'.cell? ⟨x, 3, none⟩ = some (.slice ai mi ci) ∧ w'.frozen? ⟨x, 3, none⟩ = false ∧ w'.cell? ⟨q6, 0, none⟩ = some (.int .i64 3) ∧ w'.cell? ⟨q6, 1, none⟩ = some (.string ⟨#[]⟩) ∧ w'.cell? ⟨q6, 2, none⟩ = some (.int .i64 vn) ∧ w'.cell? ⟨q6, 3, none⟩ = some (.int .i64 0))) := Lib.hid fun w' cs k1 hc k2 => ⟨(k1.cell 3).trans hc, k1.frozen 3, k2.cell 0, k2.cell 1, k2.cell 2, k2.cell 3⟩
  have s18 : w7.drew.cell? ⟨x, 3, none⟩ = some (.slice ai mi ci) ∧ w7.drew.frozen? ⟨x, 3, none⟩ = false ∧ w7.drew.cell? ⟨q6, 0, none⟩ = some (.int .i64 3) ∧ w7.drew.cell? ⟨q6, 1, none⟩ = some (.string ⟨#[]⟩) ∧ w7.drew.cell? ⟨q6, 2, none⟩ = some (.int .i64 vn) ∧ w7.drew.cell? ⟨q6, 3, none⟩ = some (.int .i64 0) := MK18.out _ _ I7.out.l.blk.drew rfl I7.out.i.drew
  go_upto_region 18 with fail
  refine wp_region_ordL (S := fun w' => w'.cell? ⟨x, 3, none⟩ = some (.slice ai mi ci) ∧ w'.frozen? ⟨x, 3, none⟩ = false ∧ w'.cell? ⟨q6, 0, none⟩ = some (.int .i64 3) ∧ w'.cell? ⟨q6, 1, none⟩ = some (.string ⟨#[]⟩) ∧ w'.cell? ⟨q6, 2, none⟩ = some (.int .i64 vn) ∧ w'.cell? ⟨q6, 3, none⟩ = some (.int .i64 0)) [0, 1, 2, 3, 4, 5, 6, 7, 8, 9, 10] 10 (by kernel_rfl) (by kernel_rfl) (by kernel_rfl) (by kernel_rfl) (by kernel_rfl) (by kernel_rfl) (s18) ?_
  simp only [pickL, List.filterMap_cons, List.filterMap_nil, List.getElem?_cons_zero, List.getElem?_cons_succ]
  repeat (refine ordL_take (v := ?_) (by rfl) (by rfl) ?_ ?_; rotate_left; (focus (intro w hSw; (try dsimp only at hSw); go_simp; (try with_reducible rfl))); simp only [Act.put, List.setIfInBounds_toArray, List.set_cons_zero, List.set_cons_succ])
  have I18 : Hid (AdI B w (w7.drew.alloc (.cells #[.int .i64 3, .string ⟨#[]⟩, .int .i64 vn, .int .i64 0] 107)) x t (.slice ai mi ci) sv wv sc fr st rd (tk ++ b) ef (n + 1) q4 q6 q7 evc #[.int .i64 3, .string ⟨#[]⟩, .int .i64 vn, .int .i64 0] #[.int .i64 0, .string b, .int .i64 0, .int .i64 0, .int .i64 0, .int .i64 0, .int .i64 0, .int .i64 0, .bool false]) := Lib.hid (I7.out.later (Below.alloc (Below.refl w7.heap.size w7).drew (Nat.le_refl _) _))
  refine ordL_lone (by rfl) (by rfl) (fun KK hK => ?_)
  try go_simp
  refine hK.out (_) (w7.drew.alloc (.cells #[.int .i64 3, .string ⟨#[]⟩, .int .i64 vn, .int .i64 0] 107)) (.inr (MK18.out _ _ I18.out.l.blk rfl I18.out.i)) ?_
  clear hK KK
  try simp only [Act.put, List.setIfInBounds_toArray, List.set_cons_zero, List.set_cons_succ]
  refine ordL_lone (by rfl) (by rfl) (fun KK hK => ?_)
  refine wp_append1 (B := B) info_Input rfl (by decide) (by decide) Tryz.underlying48 (.tmp 111) (.tmp 113) rfl (.slice ai mi ci) mi xsi rfl (orow_later OI.out (Below.alloc (Below.refl w7.heap.size w7).drew (Nat.le_refl _) _)) w7.drew.heap.size rfl [.int .i64 3, .string ⟨#[]⟩, .int .i64 vn, .int .i64 0] rfl ?a1 ?a2 ?a4 ?a5 ?a3
  case a1 => intro j u hj; exact ((Blk.new w7.drew 107 #[.int .i64 3, .string ⟨#[]⟩, .int .i64 vn, .int .i64 0]).cell j).trans (by simpa using hj)
  case a2 =>
    intro u hu
    simp only [List.mem_cons, List.not_mem_nil, or_false] at hu
    rcases hu with rfl | rfl | rfl | rfl <;> rfl
  case a4 => have := HMI.out; have := HB.out; omega
  case a5 => have := I18.out.f.size; have := HB.out; omega
  case a3 =>
  intro ai2 ci2 w8 o8 g8 gr8
  have fg : Foot (fun i => Value.ownBlock (.slice ai mi ci) = some i) (w7.drew.alloc (.cells #[.int .i64 3, .string ⟨#[]⟩, .int .i64 vn, .int .i64 0] 107)) w8 := Foot.grown g8 (fun _ e => e)
  have kx8 := I18.out.l.blk.foot fg (fun e => by obtain ⟨_, hc⟩ := I18.out.l.ir.kind e; exact (hc.type_ne I18.out.l.blk (by decide)) rfl)
  have kq8 := I18.out.i.foot fg (fun e => I18.out.ne6.2.2.1 e)
  have ko8 := I18.out.o.foot fg (fun e => I18.out.ne7.2.2.1 e)
  have L9 := (I18.out.l.more (Nat.le_succ (n + 1))).grewI g8 ⟨mi + 1, _, Nat.succ_le_succ HMI.out, o8⟩ (fun g hg => by
    rcases gr8 g hg with h | h
    · obtain ⟨_, hc⟩ := I18.out.l.ir.kind h
      exact ⟨hc.type_ne I18.out.l.blk (by decide), hc.type_ne I18.out.l.wan (by decide)⟩
    · have h1 := I18.out.l.blk.lt; have h2 := I18.out.l.wan.lt; exact ⟨by omega, by omega⟩)
  refine hK.out _ _ (.inr (MK18.out _ _ kx8 rfl kq8)) ?_
  clear hK KK
  have d8 : ∀ w', Below w8.heap.size w8 w' → w'.cell? ⟨x, 3, none⟩ = some (.slice ai mi ci) ∧ w'.frozen? ⟨x, 3, none⟩ = false := fun w' hb => ⟨(kx8.later hb).cell 3, (kx8.later hb).frozen 3⟩
  have hr8 := Below.refl w8.heap.size w8
  try simp only [Act.put, List.setIfInBounds_toArray, List.set_cons_zero, List.set_cons_succ]
  repeat (refine ordL_take (v := ?_) (by rfl) (by rfl) ?_ ?_; rotate_left; (focus (intro w hSw; (try dsimp only at hSw); go_simp; (try with_reducible rfl))); simp only [Act.put, List.setIfInBounds_toArray, List.set_cons_zero, List.set_cons_succ])
  refine ordL_lone (by rfl) (by rfl) (fun KK hK => ?_)
  try go_simp
  refine hK.out _ _ (.inl (by trivial)) ?_
  clear hK KK
  try simp only [Act.put, List.setIfInBounds_toArray, List.set_cons_zero, List.set_cons_succ]
  refine ordL_done ?_
  obtain ⟨w9, hw9⟩ : ∃ w9, w9 = w8.setCell ⟨x, 3, none⟩ (.slice ai2 (mi + 1) ci2) := ⟨_, rfl⟩
  rw [← hw9] at L9
  have fx : Foot (fun i => i = x) w8 w9 := by rw [hw9]; exact foot_set (fun i => i = x) (Foot.refl _ w8) x 3 rfl _
  have hxq : x < w.heap.size := I18.out.old.1
  have ko9 := ko8.foot fx (by show ¬ q7 = x; have := I18.out.lo; omega)
  have F9 : Hid (Foot (fun i => B ≤ i) w w9) := Lib.hid ((I18.out.f.trans (fg.mono fun i hi => (I18.out.l.ir.lt hi).1)).trans (fx.mono fun i hi => by rw [hi]; exact I18.out.l.lo.1))
  have HL9 := Lib.hid L9
  have HO9 := Lib.hid ko9
  have HT9 : Hid (t < w.heap.size ∧ w.heap.size ≤ q7) := Lib.hid ⟨I18.out.old.2.1, by have := I18.out.lo; omega⟩
  rw [← hw9]
  clear d8 hr8 hw9 fx hxq ko9 L9 fg kx8 kq8 ko8 gr8 g8 o8 I18 s18 MK18 OI I7
  obtain ⟨mw, xsw, hmw, ow⟩ := HL9.out.wr
  obtain ⟨aw, cw, hvw, _⟩ := orow_form ow
  subst hvw
  have OW := Lib.hid ow
  have HMW := Lib.hid hmw
  clear ow hmw
  have MK19 : Hid (∀ w', Blk w' t 61 #[.slice aw mw cw] → Blk w' q7 109 #[.int .i64 0, .string b, .int .i64 0, .int .i64 0, .int .i64 0, .int .i64 0, .int .i64 0, .int .i64 0, .bool false] → (w'.cell? ⟨t, 0, none⟩ = some (.slice aw mw cw) ∧ w'.frozen? ⟨t, 0, none⟩ = false ∧ w'.cell? ⟨q7, 0, none⟩ = some (.int .i64 0) ∧ w'.cell? ⟨q7, 1, none⟩ = some (.string b) ∧ w'.cell? ⟨q7, 2, none⟩ = some (.int .i64 0) ∧ w'.cell? ⟨q7, 3, none⟩ = some (.int .i64 0) ∧ w'.cell? ⟨q7, 4, none⟩ = some (.int .i64 0) ∧ w'.cell? ⟨q7, 5, none⟩ = some (.int .i64 0) ∧ w'.cell? ⟨q7, 6, none⟩ = some (.int .i64 0) ∧ w'.cell? ⟨q7, 7, none⟩ = some (.int .i64 0) ∧ w'.cell? ⟨q7, 8, none⟩ = some (.bool false))) := Lib.hid fun w' k1 k2 => ⟨k1.cell 0, k1.frozen 0, k2.cell 0, k2.cell 1, k2.cell 2, k2.cell 3, k2.cell 4, k2.cell 5, k2.cell 6, k2.cell 7, k2.cell 8⟩
  have s19 : w9.drew.cell? ⟨t, 0, none⟩ = some (.slice aw mw cw) ∧ w9.drew.frozen? ⟨t, 0, none⟩ = false ∧ w9.drew.cell? ⟨q7, 0, none⟩ = some (.int .i64 0) ∧ w9.drew.cell? ⟨q7, 1, none⟩ = some (.string b) ∧ w9.drew.cell? ⟨q7, 2, none⟩ = some (.int .i64 0) ∧ w9.drew.cell? ⟨q7, 3, none⟩ = some (.int .i64 0) ∧ w9.drew.cell? ⟨q7, 4, none⟩ = some (.int .i64 0) ∧ w9.drew.cell? ⟨q7, 5, none⟩ = some (.int .i64 0) ∧ w9.drew.cell? ⟨q7, 6, none⟩ = some (.int .i64 0) ∧ w9.drew.cell? ⟨q7, 7, none⟩ = some (.int .i64 0) ∧ w9.drew.cell? ⟨q7, 8, none⟩ = some (.bool false) := MK19.out _ HL9.out.wan.drew HO9.out.drew
  go_upto_region 19 with fail
  refine wp_region_ordL (S := fun w' => w'.cell? ⟨t, 0, none⟩ = some (.slice aw mw cw) ∧ w'.frozen? ⟨t, 0, none⟩ = false ∧ w'.cell? ⟨q7, 0, none⟩ = some (.int .i64 0) ∧ w'.cell? ⟨q7, 1, none⟩ = some (.string b) ∧ w'.cell? ⟨q7, 2, none⟩ = some (.int .i64 0) ∧ w'.cell? ⟨q7, 3, none⟩ = some (.int .i64 0) ∧ w'.cell? ⟨q7, 4, none⟩ = some (.int .i64 0) ∧ w'.cell? ⟨q7, 5, none⟩ = some (.int .i64 0) ∧ w'.cell? ⟨q7, 6, none⟩ = some (.int .i64 0) ∧ w'.cell? ⟨q7, 7, none⟩ = some (.int .i64 0) ∧ w'.cell? ⟨q7, 8, none⟩ = some (.bool false)) [0, 1, 2, 3, 4, 5, 6, 7, 8] 8 (by kernel_rfl) (by kernel_rfl) (by kernel_rfl) (by kernel_rfl) (by kernel_rfl) (by kernel_rfl) (s19) ?_
  simp only [pickL, List.filterMap_cons, List.filterMap_nil, List.getElem?_cons_zero, List.getElem?_cons_succ]
  repeat (refine ordL_take (v := ?_) (by rfl) (by rfl) ?_ ?_; rotate_left; (focus (intro w hSw; (try dsimp only at hSw); go_simp; (try with_reducible rfl))); simp only [Act.put, List.setIfInBounds_toArray, List.set_cons_zero, List.set_cons_succ])
  have L19 := Lib.hid (HL9.out.later (Below.alloc (Below.refl w9.heap.size w9).drew (Nat.le_refl _) (.cells #[.int .i64 0, .string b, .int .i64 0, .int .i64 0, .int .i64 0, .int .i64 0, .int .i64 0, .int .i64 0, .bool false] 109)))
  have O19 := Lib.hid (HO9.out.later (Below.alloc (Below.refl w9.heap.size w9).drew (Nat.le_refl _) (.cells #[.int .i64 0, .string b, .int .i64 0, .int .i64 0, .int .i64 0, .int .i64 0, .int .i64 0, .int .i64 0, .bool false] 109)))
  refine ordL_lone (by rfl) (by rfl) (fun KK hK => ?_)
  try go_simp
  refine hK.out (_) (w9.drew.alloc (.cells #[.int .i64 0, .string b, .int .i64 0, .int .i64 0, .int .i64 0, .int .i64 0, .int .i64 0, .int .i64 0, .bool false] 109)) (.inr (MK19.out _ L19.out.wan O19.out)) ?_
  clear hK KK
  try simp only [Act.put, List.setIfInBounds_toArray, List.set_cons_zero, List.set_cons_succ]
  refine ordL_lone (by rfl) (by rfl) (fun KK hK => ?_)
  refine wp_append1 (B := B) info_Out rfl (by decide) (by decide) Tryz.underlying61 (.tmp 120) (.tmp 122) rfl (.slice aw mw cw) mw xsw rfl (orow_later OW.out (Below.alloc (Below.refl w9.heap.size w9).drew (Nat.le_refl _) _)) w9.drew.heap.size rfl [.int .i64 0, .string b, .int .i64 0, .int .i64 0, .int .i64 0, .int .i64 0, .int .i64 0, .int .i64 0, .bool false] rfl ?b1 ?b2 ?b4 ?b5 ?b3
  case b1 => intro j u hj; exact ((Blk.new w9.drew 109 #[.int .i64 0, .string b, .int .i64 0, .int .i64 0, .int .i64 0, .int .i64 0, .int .i64 0, .int .i64 0, .bool false]).cell j).trans (by simpa using hj)
  case b2 =>
    intro u hu
    simp only [List.mem_cons, List.not_mem_nil, or_false] at hu
    rcases hu with rfl | rfl | rfl | rfl | rfl | rfl | rfl | rfl | rfl <;> rfl
  case b4 => have := HMW.out; have := HB.out; omega
  case b5 =>
    have h1 := F9.out.size
    have h2 := HB.out
    have h3 := (Below.alloc (Below.refl w9.heap.size w9).drew (Nat.le_refl _) (.cells #[.int .i64 0, .string b, .int .i64 0, .int .i64 0, .int .i64 0, .int .i64 0, .int .i64 0, .int .i64 0, .bool false] 109)).size
    omega
  case b3 =>
  intro aw2 cw2 w10 o10 g10 gr10
  have fg : Foot (fun i => Value.ownBlock (.slice aw mw cw) = some i) (w9.drew.alloc (.cells #[.int .i64 0, .string b, .int .i64 0, .int .i64 0, .int .i64 0, .int .i64 0, .int .i64 0, .int .i64 0, .bool false] 109)) w10 := Foot.grown g10 (fun _ e => e)
  have hold := HL9.out.old
  have kt10 := L19.out.wan.foot fg (fun e => by obtain ⟨_, hc⟩ := L19.out.wr.kind e; exact (hc.type_ne L19.out.wan (by decide)) rfl)
  have hq7 : ¬ Value.ownBlock (.slice aw mw cw) = some q7 := fun e => by
    have h1 := HOLD.out.2.2.2.2 q7 e
    have h2 := HT9.out.2
    omega
  have kq10 := O19.out.foot fg hq7
  have L11 := (L19.out.more (Nat.le_succ ((n + 1) + 1))).grewW g10 ⟨mw + 1, _, Nat.succ_le_succ HMW.out, o10⟩ (fun g hg => by
    rcases gr10 g hg with h | h
    · obtain ⟨_, hc⟩ := L19.out.wr.kind h
      exact ⟨hc.type_ne L19.out.blk (by decide), hc.type_ne L19.out.wan (by decide)⟩
    · have h1 := L19.out.blk.lt; have h2 := L19.out.wan.lt; exact ⟨by omega, by omega⟩)
  refine hK.out _ _ (.inr (MK19.out _ kt10 kq10)) ?_
  clear hK KK
  have d10 : ∀ w', Below w10.heap.size w10 w' → w'.cell? ⟨t, 0, none⟩ = some (.slice aw mw cw) ∧ w'.frozen? ⟨t, 0, none⟩ = false := fun w' hb => ⟨(kt10.later hb).cell 0, (kt10.later hb).frozen 0⟩
  have hr10 := Below.refl w10.heap.size w10
  try simp only [Act.put, List.setIfInBounds_toArray, List.set_cons_zero, List.set_cons_succ]
  repeat (refine ordL_take (v := ?_) (by rfl) (by rfl) ?_ ?_; rotate_left; (focus (intro w hSw; (try dsimp only at hSw); go_simp; (try with_reducible rfl))); simp only [Act.put, List.setIfInBounds_toArray, List.set_cons_zero, List.set_cons_succ])
  refine ordL_lone (by rfl) (by rfl) (fun KK hK => ?_)
  try go_simp
  refine hK.out _ _ (.inl (by trivial)) ?_
  clear hK KK
  try simp only [Act.put, List.setIfInBounds_toArray, List.set_cons_zero, List.set_cons_succ]
  refine ordL_done ?_
  have F11 : Foot (fun i => B ≤ i) w (w10.setCell ⟨t, 0, none⟩ (.slice aw2 (mw + 1) cw2)) := ((F9.out.up (Below.alloc (Below.refl w9.heap.size w9).drew (Nat.le_refl _) _)).trans (fg.mono fun i hi => (L19.out.wr.lt hi).1)).trans (foot_set (fun i => B ≤ i) (Foot.refl _ w10) t 0 L19.out.lo.2 _)
  have HL11 := Lib.hid L11
  have HF11 := Lib.hid F11
  clear d10 hr10 L11 F11 fg hold kt10 kq10 gr10 g10 o10 s19
  go_wp2_with fail
  (try simp only [Exit.inBlock, Exit.then])
  go_end0
  exact ⟨rfl, _, _, _, _, HL11.out, HF11.out⟩
set_option maxRecDepth 100000 in
set_option maxHeartbeats 8000000 in
theorem adStep {B : Nat} {w : World} {x t : Nat} {iv sv wv : Value} {sc fr st : Int} {rd tk : ByteArray} {ef : Bool} {n : Nat} (h : LifeI B w x t iv sv wv sc fr st rd tk ef n) (hB : B ≤ w.heap.size) (v : EvT) (hi : v.i = 0) (hk : v.k = 8) (hv : v.b.size ≤ 1000) (hn : n ≤ 300000) :
    Calls Tryz.prog 19 #[.pointer (some ⟨x, 0, none⟩), .agg v.cells.toArray, .pointer (some ⟨t, 0, none⟩)] w fun e w' => e = .returned (.tuple #[]) ∧ ∃ iv' sv' wv', LifeI B w' x t iv' sv' wv' sc fr v.s5 rd tk ef (n + 3) ∧ Foot (fun i => B ≤ i) w w' := by
  obtain ⟨k, i, vn, vt, b, er, s0, s1, s2, s3, s4, s5⟩ := v
  simp only at hi hk hv
  subst hi
  obtain rfl : k = 8 := hk
  unfold EvT.cells
  simp only
  obtain ⟨q4, hq4⟩ : ∃ q, w.heap.size = q := ⟨_, rfl⟩
  obtain ⟨wa, hwa⟩ : ∃ wa, wa = w.alloc (.cells #[.int .i64 8, .int .i64 0, .int .i64 vn, .int .i64 vt, .string b, .int .i64 er, .int .i64 s0, .int .i64 s1, .int .i64 s2, .int .i64 s3, .int .i64 s4, .int .i64 s5] 69) := ⟨_, rfl⟩
  have Ka : Blk wa q4 69 #[.int .i64 8, .int .i64 0, .int .i64 vn, .int .i64 vt, .string b, .int .i64 er, .int .i64 s0, .int .i64 s1, .int .i64 s2, .int .i64 s3, .int .i64 s4, .int .i64 s5] := by rw [hwa, ← hq4]; exact Blk.new _ _ _
  have ba : Below w.heap.size w wa := by rw [hwa]; exact Below.alloc (Below.refl _ _) (Nat.le_refl _) _
  have sa : wa.heap.size = q4 + 1 := by rw [hwa, ← hq4]; simp
  obtain ⟨wb, hwb⟩ : ∃ wb, wb = wa.alloc (.cells #[.int .i64 0, .string ⟨#[]⟩, .int .i64 0, .int .i64 0] 107) := ⟨_, rfl⟩
  have Kb : Blk wb (q4 + 1) 107 #[.int .i64 0, .string ⟨#[]⟩, .int .i64 0, .int .i64 0] := by rw [hwb, ← sa]; exact Blk.new _ _ _
  have bb : Below wa.heap.size wa wb := by rw [hwb]; exact Below.alloc (Below.refl _ _) (Nat.le_refl _) _
  have sb : wb.heap.size = q4 + 2 := by rw [hwb]; simp [sa]
  obtain ⟨w3, hw3⟩ : ∃ w3, w3 = wb.alloc (.cells #[.int .i64 0, .string ⟨#[]⟩, .int .i64 0, .int .i64 0, .int .i64 0, .int .i64 0, .int .i64 0, .int .i64 0, .bool false] 109) := ⟨_, rfl⟩
  have Kc : Blk w3 (q4 + 2) 109 #[.int .i64 0, .string ⟨#[]⟩, .int .i64 0, .int .i64 0, .int .i64 0, .int .i64 0, .int .i64 0, .int .i64 0, .bool false] := by rw [hw3, ← sb]; exact Blk.new _ _ _
  have bc : Below wb.heap.size wb w3 := by rw [hw3]; exact Below.alloc (Below.refl _ _) (Nat.le_refl _) _
  have HN3 : Hid (AdN w w3 q4 (q4 + 1) (q4 + 1 + 1) 8 vn vt b er s0 s1 s2 s3 s4 s5) := Lib.hid ⟨(ba.up bb).up bc, (Ka.later bb).later bc, Kb.later bc, Kc, by omega⟩
  have hw3' : w3 = ((w.alloc (.cells #[.int .i64 8, .int .i64 0, .int .i64 vn, .int .i64 vt, .string b, .int .i64 er, .int .i64 s0, .int .i64 s1, .int .i64 s2, .int .i64 s3, .int .i64 s4, .int .i64 s5] 69)).alloc (.cells #[.int .i64 0, .string ⟨#[]⟩, .int .i64 0, .int .i64 0] 107)).alloc (.cells #[.int .i64 0, .string ⟨#[]⟩, .int .i64 0, .int .i64 0, .int .i64 0, .int .i64 0, .int .i64 0, .int .i64 0, .bool false] 109) := by rw [hw3, hwb, hwa]
  have HW3 := Lib.hid hw3'
  have HL3 := Lib.hid (h.later HN3.out.bl)
  have HOLD := Lib.hid h.old
  have HQ := Lib.hid hq4
  have HB := Lib.hid (And.intro hB (And.intro hv hn))
  have hst := h.blk
  have d : ∀ w', Below w.heap.size w w' → w'.cell? ⟨x, 8, none⟩ = some (.int .i64 st) := fun w' hb => (hst.later hb).cell 8
  have hr := Below.refl w.heap.size w
  clear hst hw3' hw3 hwb hwa Ka ba sa Kb bb sb Kc bc h hB hv hn hq4
  go_enter Tryz.func19, Tryz.ntmps19
  go_upto_region 3 with fail
  clear d hr
  rw [← HW3.out, HQ.out]
  have d1 := HL3.out.blk.at9
  have d4 := HN3.out.e.at12
  have hr := Below.refl w3.heap.size w3
  go_upto_region 5 with fail
  refine wp_region_later w3.heap.size (by kernel_rfl) (by kernel_rfl) ?_
  have hu : ∀ u : Later w3.heap.size w3, Below w3.heap.size w3 u.world := Later.below
  repeat (go_big_quiet_step ((fail)))
  refine wpQuiet_nil ?_
  intro w4 b4
  have HN4 := Lib.hid (HN3.out.later b4)
  have HL4 := Lib.hid (HL3.out.later b4)
  clear d1 d4 hr hu HN3 HL3 b4 HW3
  obtain ⟨q6, hq6⟩ : ∃ q6, q4 + 1 = q6 := ⟨_, rfl⟩
  rw [hq6] at HN4
  rw [hq6]
  obtain ⟨q7, hq7⟩ : ∃ q7, q6 + 1 = q7 := ⟨_, rfl⟩
  rw [hq7] at HN4
  rw [hq7]
  clear hq6 hq7
  have d1 := HL4.out.blk.at9
  have d4 := HN4.out.e.at12
  have hr := Below.refl w4.heap.size w4
  have I4 : Hid (AdI B w w4 x t iv sv wv sc fr st rd tk ef n q4 q6 q7 #[.int .i64 8, .int .i64 0, .int .i64 vn, .int .i64 vt, .string b, .int .i64 er, .int .i64 s0, .int .i64 s1, .int .i64 s2, .int .i64 s3, .int .i64 s4, .int .i64 s5] #[.int .i64 0, .string ⟨#[]⟩, .int .i64 0, .int .i64 0] #[.int .i64 0, .string ⟨#[]⟩, .int .i64 0, .int .i64 0, .int .i64 0, .int .i64 0, .int .i64 0, .int .i64 0, .bool false]) := Lib.hid ⟨HL4.out, HN4.out.e, HN4.out.i, HN4.out.o, Foot.later HN4.out.bl, HN4.out.lo, HOLD.out.1, HOLD.out.2.1, HOLD.out.2.2.1, HOLD.out.2.2.2.2⟩
  obtain ⟨ms, xss, hms, os⟩ := HL4.out.sr
  obtain ⟨as_, cs_, hvs, _⟩ := orow_form os
  subst hvs
  have OS := Lib.hid os
  have HMS := Lib.hid hms
  clear os hms
  have MK16 : Hid (∀ w', Blk w' x 51 #[.int .i64 0, .int .i64 sc, .int .i64 fr, iv, .slice as_ ms cs_, .string rd, .string tk, .bool ef, .int .i64 st] → Blk w' q4 69 #[.int .i64 8, .int .i64 0, .int .i64 vn, .int .i64 vt, .string b, .int .i64 er, .int .i64 s0, .int .i64 s1, .int .i64 s2, .int .i64 s3, .int .i64 s4, .int .i64 s5] → (w'.cell? ⟨x, 4, none⟩ = some (.slice as_ ms cs_) ∧ w'.frozen? ⟨x, 4, none⟩ = false ∧ w'.frozen? ⟨x, 8, none⟩ = false ∧ w'.cell? ⟨x, 8, none⟩ = some (.int .i64 st) ∧ w'.cell? ⟨q4, 6, none⟩ = some (.int .i64 s0) ∧ w'.cell? ⟨q4, 7, none⟩ = some (.int .i64 s1) ∧ w'.cell? ⟨q4, 8, none⟩ = some (.int .i64 s2) ∧ w'.cell? ⟨q4, 9, none⟩ = some (.int .i64 s3) ∧ w'.cell? ⟨q4, 10, none⟩ = some (.int .i64 s4) ∧ w'.cell? ⟨q4, 11, none⟩ = some (.int .i64 s5))) := Lib.hid fun w' k1 k2 => ⟨k1.cell 4, k1.frozen 4, k1.frozen 8, k1.cell 8, k2.cell 6, k2.cell 7, k2.cell 8, k2.cell 9, k2.cell 10, k2.cell 11⟩
  have s16 : w4.drew.cell? ⟨x, 4, none⟩ = some (.slice as_ ms cs_) ∧ w4.drew.frozen? ⟨x, 4, none⟩ = false ∧ w4.drew.frozen? ⟨x, 8, none⟩ = false ∧ w4.drew.cell? ⟨x, 8, none⟩ = some (.int .i64 st) ∧ w4.drew.cell? ⟨q4, 6, none⟩ = some (.int .i64 s0) ∧ w4.drew.cell? ⟨q4, 7, none⟩ = some (.int .i64 s1) ∧ w4.drew.cell? ⟨q4, 8, none⟩ = some (.int .i64 s2) ∧ w4.drew.cell? ⟨q4, 9, none⟩ = some (.int .i64 s3) ∧ w4.drew.cell? ⟨q4, 10, none⟩ = some (.int .i64 s4) ∧ w4.drew.cell? ⟨q4, 11, none⟩ = some (.int .i64 s5) := MK16.out _ HL4.out.blk.drew HN4.out.e.drew
  clear HN4 HL4
  go_upto_region 16 with fail
  clear d1 d4 hr
  have b5 : Below w4.heap.size w4 (w4.drew.alloc (.cells #[.int .i64 s0, .int .i64 s1, .int .i64 s2, .int .i64 s3, .int .i64 s4, .int .i64 s5] 67)) := Below.alloc (Below.refl w4.heap.size w4).drew (Nat.le_refl _) _
  obtain ⟨w5, hw5⟩ : ∃ w5, w5 = w4.drew.alloc (.cells #[.int .i64 s0, .int .i64 s1, .int .i64 s2, .int .i64 s3, .int .i64 s4, .int .i64 s5] 67) := ⟨_, rfl⟩
  rw [← hw5] at b5
  have I5 := Lib.hid (I4.out.later b5)
  have HW5 := Lib.hid hw5
  have K4e : Hid (Blk w4 q4 69 #[.int .i64 8, .int .i64 0, .int .i64 vn, .int .i64 vt, .string b, .int .i64 er, .int .i64 s0, .int .i64 s1, .int .i64 s2, .int .i64 s3, .int .i64 s4, .int .i64 s5]) := Lib.hid I4.out.e
  have K5x := Lib.hid I5.out.l.blk
  have K5e := Lib.hid I5.out.e
  have KS5 : Hid (∀ g, Value.ownBlock (.slice as_ ms cs_) = some g → ∃ cur, Blk w5 g 67 cur) := Lib.hid fun g hg => I5.out.l.sr.kind hg
  have OS5 := Lib.hid (orow_later OS.out b5)
  have A1 : Hid (∀ (j : Nat) u, ([.int .i64 s0, .int .i64 s1, .int .i64 s2, .int .i64 s3, .int .i64 s4, .int .i64 s5] : List Value)[j]? = some u → w5.cell? ⟨w4.drew.heap.size, j, none⟩ = some u) := Lib.hid fun j u hj => by
    rw [hw5]
    exact ((Blk.new w4.drew 67 #[.int .i64 s0, .int .i64 s1, .int .i64 s2, .int .i64 s3, .int .i64 s4, .int .i64 s5]).cell j).trans (by simpa using hj)
  have A2 : Hid (∀ u ∈ ([.int .i64 s0, .int .i64 s1, .int .i64 s2, .int .i64 s3, .int .i64 s4, .int .i64 s5] : List Value), u.oneCell' = true) := Lib.hid fun u hu => by
    simp only [List.mem_cons, List.not_mem_nil, or_false] at hu
    rcases hu with rfl | rfl | rfl | rfl | rfl | rfl <;> rfl
  have A4 : Hid (ms ≤ 1000000) := Lib.hid (by have := HMS.out; have := HB.out; omega)
  have A5 : Hid (B ≤ w5.heap.size) := Lib.hid (by have := I5.out.f.size; have := HB.out; omega)
  clear b5 hw5
  go_cut [] (fun wx => ∃ sv', Hid (AdI B w wx x t iv sv' wv sc fr s5 rd tk ef (n + 1) q4 q6 q7 #[.int .i64 8, .int .i64 0, .int .i64 vn, .int .i64 vt, .string b, .int .i64 er, .int .i64 s0, .int .i64 s1, .int .i64 s2, .int .i64 s3, .int .i64 s4, .int .i64 s5] #[.int .i64 0, .string ⟨#[]⟩, .int .i64 0, .int .i64 0] #[.int .i64 0, .string ⟨#[]⟩, .int .i64 0, .int .i64 0, .int .i64 0, .int .i64 0, .int .i64 0, .int .i64 0, .bool false]))
  case first =>
    refine wp_region_Z (n := 12) (S := fun w' => w'.cell? ⟨x, 4, none⟩ = some (.slice as_ ms cs_) ∧ w'.frozen? ⟨x, 4, none⟩ = false ∧ w'.frozen? ⟨x, 8, none⟩ = false ∧ w'.cell? ⟨x, 8, none⟩ = some (.int .i64 st) ∧ w'.cell? ⟨q4, 6, none⟩ = some (.int .i64 s0) ∧ w'.cell? ⟨q4, 7, none⟩ = some (.int .i64 s1) ∧ w'.cell? ⟨q4, 8, none⟩ = some (.int .i64 s2) ∧ w'.cell? ⟨q4, 9, none⟩ = some (.int .i64 s3) ∧ w'.cell? ⟨q4, 10, none⟩ = some (.int .i64 s4) ∧ w'.cell? ⟨q4, 11, none⟩ = some (.int .i64 s5)) [(15, [0, 2, 3, 4, 5, 6, 7, 8, 9, 13, 14]), (18, [0, 2, 3, 4, 5, 6, 7, 8, 9, 13, 14, 15])] [0, 2, 3, 4, 5, 6, 7] (by kernel_rfl) (by kernel_rfl) (by kernel_rfl) (by kernel_rfl) (by kernel_rfl) (by kernel_rfl) s16 ?_
    simp only [pickL, List.filterMap_cons, List.filterMap_nil, List.getElem?_cons_zero, List.getElem?_cons_succ]
    repeat (refine take_one (v := ?_) (by rfl) ?_ ?_; rotate_left; (focus (intro w hSw; (try dsimp only at hSw); go_simp; (try with_reducible rfl))); simp only [Act.put, List.setIfInBounds_toArray, List.set_cons_zero, List.set_cons_succ])
    refine take_end ?_
    refine wpAnyZ_pures (n := 9) [1, 10, 11] (by kernel_rfl) (by rfl) (by kernel_rfl) (by kernel_rfl) ?_
    simp only [pickL, List.filterMap_cons, List.filterMap_nil, List.getElem?_cons_zero, List.getElem?_cons_succ]
    repeat (refine take_one (v := ?_) (by rfl) ?_ ?_; rotate_left; (focus (intro w hSw; (try dsimp only at hSw); go_simp; (try with_reducible rfl))); simp only [Act.put, List.setIfInBounds_toArray, List.set_cons_zero, List.set_cons_succ])
    refine take_end ?_
    refine wpAnyZ_two (i := 8) (j := 12) (by kernel_rfl) (by rfl) (by rfl) (by rfl) (by rfl) (fun KK hK => ?_) (fun KK hK => ?_)
    · simp only [List.getElem_toArray, List.getElem_cons_succ, List.getElem_cons_zero]
      try go_simp
      refine hK.out (_) (w4.drew.alloc (.cells #[.int .i64 s0, .int .i64 s1, .int .i64 s2, .int .i64 s3, .int .i64 s4, .int .i64 s5] 67)) (.inr (fun _ => by rw [← HW5.out]; exact MK16.out _ K5x.out K5e.out)) ?_
      clear hK KK
      try simp only [Act.put, List.setIfInBounds_toArray, List.set_cons_zero, List.set_cons_succ]
      rw [← HW5.out]
      refine wpAnyZ_two (i := 9) (j := 12) (by kernel_rfl) (by rfl) (by rfl) (by rfl) (by rfl) (fun KK hK => ?_) (fun KK hK => ?_)
      · simp only [List.getElem_toArray, List.getElem_cons_succ, List.getElem_cons_zero]
        refine wp_append1 (B := B) info_Step rfl (by decide) (by decide) Tryz.underlying49 (.tmp 87) (.tmp 90) rfl (.slice as_ ms cs_) ms xss rfl OS5.out w4.drew.heap.size rfl [.int .i64 s0, .int .i64 s1, .int .i64 s2, .int .i64 s3, .int .i64 s4, .int .i64 s5] rfl A1.out A2.out A4.out A5.out ?_
        intro as2 cs2 w6 o6 g6 gr6
        have F6 := Foot.grown (F := fun i => Value.ownBlock (.slice as_ ms cs_) = some i) g6 (fun _ e => e)
        have K6x := Lib.hid (K5x.out.foot F6 (fun e => by obtain ⟨_, hc⟩ := KS5.out _ e; exact (hc.type_ne K5x.out (by decide)) rfl))
        have K6e := Lib.hid (K5e.out.foot F6 (fun e => by obtain ⟨_, hc⟩ := KS5.out _ e; exact (hc.type_ne K5e.out (by decide)) rfl))
        have R6 : Hid (AdI B w ((w6.setCell ⟨x, 4, none⟩ (.slice as2 (ms + 1) cs2)).setCell ⟨x, 8, none⟩ (.int .i64 s5)) x t iv (.slice as2 (ms + 1) cs2) wv sc fr s5 rd tk ef (n + 1) q4 q6 q7 #[.int .i64 8, .int .i64 0, .int .i64 vn, .int .i64 vt, .string b, .int .i64 er, .int .i64 s0, .int .i64 s1, .int .i64 s2, .int .i64 s3, .int .i64 s4, .int .i64 s5] #[.int .i64 0, .string ⟨#[]⟩, .int .i64 0, .int .i64 0] #[.int .i64 0, .string ⟨#[]⟩, .int .i64 0, .int .i64 0, .int .i64 0, .int .i64 0, .int .i64 0, .int .i64 0, .bool false]) := Lib.hid (I5.out.step g6 ⟨ms + 1, _, Nat.succ_le_succ HMS.out, o6⟩ gr6 s5)
        refine hK.out _ _ (.inr (fun _ => MK16.out _ K6x.out K6e.out)) ?_
        clear hK KK F6 o6 g6 gr6
        try simp only [Act.put, List.setIfInBounds_toArray, List.set_cons_zero, List.set_cons_succ]
        refine wpAnyZ_pures (n := 5) [13, 14] (by kernel_rfl) (by rfl) (by kernel_rfl) (by kernel_rfl) ?_
        simp only [pickL, List.filterMap_cons, List.filterMap_nil, List.getElem?_cons_zero, List.getElem?_cons_succ]
        repeat (refine take_one (v := ?_) (by rfl) ?_ ?_; rotate_left; (focus (intro w hSw; (try dsimp only at hSw); go_simp; (try with_reducible rfl))); simp only [Act.put, List.setIfInBounds_toArray, List.set_cons_zero, List.set_cons_succ])
        refine take_end ?_
        refine wpAnyZ_two (i := 12) (j := 15) (by kernel_rfl) (by rfl) (by rfl) (by rfl) (by rfl) (fun KK hK => ?_) (fun KK hK => ?_)
        · simp only [List.getElem_toArray, List.getElem_cons_succ, List.getElem_cons_zero]
          have dl := K6e.out.at12
          have hrl := Below.refl w6.heap.size w6
          try go_simp
          refine hK.out _ _ (.inr (fun h => h)) ?_
          clear hK KK dl hrl
          try simp only [Act.put, List.setIfInBounds_toArray, List.set_cons_zero, List.set_cons_succ]
          refine wpAnyZ_one (i := 15) (by kernel_rfl) (by rfl) (by rfl) (fun KK hK => ?_)
          simp only [List.getElem_toArray, List.getElem_cons_succ, List.getElem_cons_zero]
          have dx := K6x.out.at9
          have hrx := Below.refl w6.heap.size w6
          try go_simp
          have K7e := K6e.out.far (p := ⟨x, 4, none⟩) (by show q4 ≠ x; exact (K6e.out.type_ne K6x.out (by decide))) (.slice as2 (ms + 1) cs2)
          have K7x := K6x.out.set_ 4 (.slice as2 (ms + 1) cs2)
          refine hK.out _ _ (.inl (by kernel_rfl)) ?_
          clear hK KK dx hrx
          try simp only [Act.put, List.setIfInBounds_toArray, List.set_cons_zero, List.set_cons_succ]
          obtain ⟨w7, hw7⟩ : ∃ w7, w7 = w6.setCell ⟨x, 4, none⟩ (.slice as2 (ms + 1) cs2) := ⟨_, rfl⟩
          rw [← hw7] at K7e K7x R6
          rw [← hw7]
          clear hw7
          refine wpAnyZ_pures (n := 1) [16, 17] (by kernel_rfl) (by rfl) (by kernel_rfl) (by kernel_rfl) ?_
          simp only [pickL, List.filterMap_cons, List.filterMap_nil, List.getElem?_cons_zero, List.getElem?_cons_succ]
          repeat (refine take_one (v := ?_) (by rfl) ?_ ?_; rotate_left; (focus (intro w hSw; (try dsimp only at hSw); go_simp; (try with_reducible rfl))); simp only [Act.put, List.setIfInBounds_toArray, List.set_cons_zero, List.set_cons_succ])
          refine take_end ?_
          refine wpAnyZ_one (i := 18) (by kernel_rfl) (by rfl) (by rfl) (fun KK hK => ?_)
          simp only [List.getElem_toArray, List.getElem_cons_succ, List.getElem_cons_zero]
          have dx := K7x.at9
          have hrx := Below.refl w7.heap.size w7
          try go_simp
          refine hK.out _ _ (.inl (by kernel_rfl)) ?_
          clear hK KK dx hrx
          try simp only [Act.put, List.setIfInBounds_toArray, List.set_cons_zero, List.set_cons_succ]
          refine anyZ_done (by kernel_rfl) ?_
          clear K7x K7e
          go_wp2_with fail
          go_meet
          exact ⟨_, R6⟩
        · simp only [List.getElem_toArray, List.getElem_cons_succ, List.getElem_cons_zero]
          have dx := K6x.out.at9
          have hrx := Below.refl w6.heap.size w6
          try go_simp
          have K7e := K6e.out.far (p := ⟨x, 4, none⟩) (by show q4 ≠ x; exact (K6e.out.type_ne K6x.out (by decide))) (.slice as2 (ms + 1) cs2)
          have K7x := K6x.out.set_ 4 (.slice as2 (ms + 1) cs2)
          refine hK.out _ _ (.inl (by kernel_rfl)) ?_
          clear hK KK dx hrx
          try simp only [Act.put, List.setIfInBounds_toArray, List.set_cons_zero, List.set_cons_succ]
          obtain ⟨w7, hw7⟩ : ∃ w7, w7 = w6.setCell ⟨x, 4, none⟩ (.slice as2 (ms + 1) cs2) := ⟨_, rfl⟩
          rw [← hw7] at K7e K7x R6
          rw [← hw7]
          clear hw7
          refine wpAnyZ_one (i := 12) (by kernel_rfl) (by rfl) (by rfl) (fun KK hK => ?_)
          simp only [List.getElem_toArray, List.getElem_cons_succ, List.getElem_cons_zero]
          have dl := K7e.at12
          have hrl := Below.refl w7.heap.size w7
          try go_simp
          refine hK.out _ _ (.inr (fun h => h)) ?_
          clear hK KK dl hrl
          try simp only [Act.put, List.setIfInBounds_toArray, List.set_cons_zero, List.set_cons_succ]
          refine wpAnyZ_pures (n := 1) [16, 17] (by kernel_rfl) (by rfl) (by kernel_rfl) (by kernel_rfl) ?_
          simp only [pickL, List.filterMap_cons, List.filterMap_nil, List.getElem?_cons_zero, List.getElem?_cons_succ]
          repeat (refine take_one (v := ?_) (by rfl) ?_ ?_; rotate_left; (focus (intro w hSw; (try dsimp only at hSw); go_simp; (try with_reducible rfl))); simp only [Act.put, List.setIfInBounds_toArray, List.set_cons_zero, List.set_cons_succ])
          refine take_end ?_
          refine wpAnyZ_one (i := 18) (by kernel_rfl) (by rfl) (by rfl) (fun KK hK => ?_)
          simp only [List.getElem_toArray, List.getElem_cons_succ, List.getElem_cons_zero]
          have dx := K7x.at9
          have hrx := Below.refl w7.heap.size w7
          try go_simp
          refine hK.out _ _ (.inl (by kernel_rfl)) ?_
          clear hK KK dx hrx
          try simp only [Act.put, List.setIfInBounds_toArray, List.set_cons_zero, List.set_cons_succ]
          refine anyZ_done (by kernel_rfl) ?_
          clear K7x K7e
          go_wp2_with fail
          go_meet
          exact ⟨_, R6⟩
      · simp only [List.getElem_toArray, List.getElem_cons_succ, List.getElem_cons_zero]
        have dl := K5e.out.at12
        have hrl := Below.refl w5.heap.size w5
        try go_simp
        refine hK.out _ _ (.inr (fun h => h)) ?_
        clear hK KK dl hrl
        try simp only [Act.put, List.setIfInBounds_toArray, List.set_cons_zero, List.set_cons_succ]
        refine wpAnyZ_one (i := 9) (by kernel_rfl) (by rfl) (by rfl) (fun KK hK => ?_)
        simp only [List.getElem_toArray, List.getElem_cons_succ, List.getElem_cons_zero]
        refine wp_append1 (B := B) info_Step rfl (by decide) (by decide) Tryz.underlying49 (.tmp 87) (.tmp 90) rfl (.slice as_ ms cs_) ms xss rfl OS5.out w4.drew.heap.size rfl [.int .i64 s0, .int .i64 s1, .int .i64 s2, .int .i64 s3, .int .i64 s4, .int .i64 s5] rfl A1.out A2.out A4.out A5.out ?_
        intro as2 cs2 w6 o6 g6 gr6
        have F6 := Foot.grown (F := fun i => Value.ownBlock (.slice as_ ms cs_) = some i) g6 (fun _ e => e)
        have K6x := Lib.hid (K5x.out.foot F6 (fun e => by obtain ⟨_, hc⟩ := KS5.out _ e; exact (hc.type_ne K5x.out (by decide)) rfl))
        have K6e := Lib.hid (K5e.out.foot F6 (fun e => by obtain ⟨_, hc⟩ := KS5.out _ e; exact (hc.type_ne K5e.out (by decide)) rfl))
        have R6 : Hid (AdI B w ((w6.setCell ⟨x, 4, none⟩ (.slice as2 (ms + 1) cs2)).setCell ⟨x, 8, none⟩ (.int .i64 s5)) x t iv (.slice as2 (ms + 1) cs2) wv sc fr s5 rd tk ef (n + 1) q4 q6 q7 #[.int .i64 8, .int .i64 0, .int .i64 vn, .int .i64 vt, .string b, .int .i64 er, .int .i64 s0, .int .i64 s1, .int .i64 s2, .int .i64 s3, .int .i64 s4, .int .i64 s5] #[.int .i64 0, .string ⟨#[]⟩, .int .i64 0, .int .i64 0] #[.int .i64 0, .string ⟨#[]⟩, .int .i64 0, .int .i64 0, .int .i64 0, .int .i64 0, .int .i64 0, .int .i64 0, .bool false]) := Lib.hid (I5.out.step g6 ⟨ms + 1, _, Nat.succ_le_succ HMS.out, o6⟩ gr6 s5)
        refine hK.out _ _ (.inr (fun _ => MK16.out _ K6x.out K6e.out)) ?_
        clear hK KK F6 o6 g6 gr6
        try simp only [Act.put, List.setIfInBounds_toArray, List.set_cons_zero, List.set_cons_succ]
        refine wpAnyZ_pures (n := 4) [13, 14] (by kernel_rfl) (by rfl) (by kernel_rfl) (by kernel_rfl) ?_
        simp only [pickL, List.filterMap_cons, List.filterMap_nil, List.getElem?_cons_zero, List.getElem?_cons_succ]
        repeat (refine take_one (v := ?_) (by rfl) ?_ ?_; rotate_left; (focus (intro w hSw; (try dsimp only at hSw); go_simp; (try with_reducible rfl))); simp only [Act.put, List.setIfInBounds_toArray, List.set_cons_zero, List.set_cons_succ])
        refine take_end ?_
        refine wpAnyZ_one (i := 15) (by kernel_rfl) (by rfl) (by rfl) (fun KK hK => ?_)
        simp only [List.getElem_toArray, List.getElem_cons_succ, List.getElem_cons_zero]
        have dx := K6x.out.at9
        have hrx := Below.refl w6.heap.size w6
        try go_simp
        have K7e := K6e.out.far (p := ⟨x, 4, none⟩) (by show q4 ≠ x; exact (K6e.out.type_ne K6x.out (by decide))) (.slice as2 (ms + 1) cs2)
        have K7x := K6x.out.set_ 4 (.slice as2 (ms + 1) cs2)
        refine hK.out _ _ (.inl (by kernel_rfl)) ?_
        clear hK KK dx hrx
        try simp only [Act.put, List.setIfInBounds_toArray, List.set_cons_zero, List.set_cons_succ]
        obtain ⟨w7, hw7⟩ : ∃ w7, w7 = w6.setCell ⟨x, 4, none⟩ (.slice as2 (ms + 1) cs2) := ⟨_, rfl⟩
        rw [← hw7] at K7e K7x R6
        rw [← hw7]
        clear hw7
        refine wpAnyZ_pures (n := 1) [16, 17] (by kernel_rfl) (by rfl) (by kernel_rfl) (by kernel_rfl) ?_
        simp only [pickL, List.filterMap_cons, List.filterMap_nil, List.getElem?_cons_zero, List.getElem?_cons_succ]
        repeat (refine take_one (v := ?_) (by rfl) ?_ ?_; rotate_left; (focus (intro w hSw; (try dsimp only at hSw); go_simp; (try with_reducible rfl))); simp only [Act.put, List.setIfInBounds_toArray, List.set_cons_zero, List.set_cons_succ])
        refine take_end ?_
        refine wpAnyZ_one (i := 18) (by kernel_rfl) (by rfl) (by rfl) (fun KK hK => ?_)
        simp only [List.getElem_toArray, List.getElem_cons_succ, List.getElem_cons_zero]
        have dx := K7x.at9
        have hrx := Below.refl w7.heap.size w7
        try go_simp
        refine hK.out _ _ (.inl (by kernel_rfl)) ?_
        clear hK KK dx hrx
        try simp only [Act.put, List.setIfInBounds_toArray, List.set_cons_zero, List.set_cons_succ]
        refine anyZ_done (by kernel_rfl) ?_
        clear K7x K7e
        go_wp2_with fail
        go_meet
        exact ⟨_, R6⟩
    · simp only [List.getElem_toArray, List.getElem_cons_succ, List.getElem_cons_zero]
      have dl := K4e.out.at12
      have hrl := Below.refl w4.heap.size w4
      try go_simp
      refine hK.out _ _ (.inr (fun h => h)) ?_
      clear hK KK dl hrl
      try simp only [Act.put, List.setIfInBounds_toArray, List.set_cons_zero, List.set_cons_succ]
      refine wpAnyZ_one (i := 8) (by kernel_rfl) (by rfl) (by rfl) (fun KK hK => ?_)
      simp only [List.getElem_toArray, List.getElem_cons_succ, List.getElem_cons_zero]
      try go_simp
      refine hK.out (_) (w4.drew.alloc (.cells #[.int .i64 s0, .int .i64 s1, .int .i64 s2, .int .i64 s3, .int .i64 s4, .int .i64 s5] 67)) (.inr (fun _ => by rw [← HW5.out]; exact MK16.out _ K5x.out K5e.out)) ?_
      clear hK KK
      try simp only [Act.put, List.setIfInBounds_toArray, List.set_cons_zero, List.set_cons_succ]
      rw [← HW5.out]
      refine wpAnyZ_one (i := 9) (by kernel_rfl) (by rfl) (by rfl) (fun KK hK => ?_)
      simp only [List.getElem_toArray, List.getElem_cons_succ, List.getElem_cons_zero]
      refine wp_append1 (B := B) info_Step rfl (by decide) (by decide) Tryz.underlying49 (.tmp 87) (.tmp 90) rfl (.slice as_ ms cs_) ms xss rfl OS5.out w4.drew.heap.size rfl [.int .i64 s0, .int .i64 s1, .int .i64 s2, .int .i64 s3, .int .i64 s4, .int .i64 s5] rfl A1.out A2.out A4.out A5.out ?_
      intro as2 cs2 w6 o6 g6 gr6
      have F6 := Foot.grown (F := fun i => Value.ownBlock (.slice as_ ms cs_) = some i) g6 (fun _ e => e)
      have K6x := Lib.hid (K5x.out.foot F6 (fun e => by obtain ⟨_, hc⟩ := KS5.out _ e; exact (hc.type_ne K5x.out (by decide)) rfl))
      have K6e := Lib.hid (K5e.out.foot F6 (fun e => by obtain ⟨_, hc⟩ := KS5.out _ e; exact (hc.type_ne K5e.out (by decide)) rfl))
      have R6 : Hid (AdI B w ((w6.setCell ⟨x, 4, none⟩ (.slice as2 (ms + 1) cs2)).setCell ⟨x, 8, none⟩ (.int .i64 s5)) x t iv (.slice as2 (ms + 1) cs2) wv sc fr s5 rd tk ef (n + 1) q4 q6 q7 #[.int .i64 8, .int .i64 0, .int .i64 vn, .int .i64 vt, .string b, .int .i64 er, .int .i64 s0, .int .i64 s1, .int .i64 s2, .int .i64 s3, .int .i64 s4, .int .i64 s5] #[.int .i64 0, .string ⟨#[]⟩, .int .i64 0, .int .i64 0] #[.int .i64 0, .string ⟨#[]⟩, .int .i64 0, .int .i64 0, .int .i64 0, .int .i64 0, .int .i64 0, .int .i64 0, .bool false]) := Lib.hid (I5.out.step g6 ⟨ms + 1, _, Nat.succ_le_succ HMS.out, o6⟩ gr6 s5)
      refine hK.out _ _ (.inr (fun _ => MK16.out _ K6x.out K6e.out)) ?_
      clear hK KK F6 o6 g6 gr6
      try simp only [Act.put, List.setIfInBounds_toArray, List.set_cons_zero, List.set_cons_succ]
      refine wpAnyZ_pures (n := 4) [13, 14] (by kernel_rfl) (by rfl) (by kernel_rfl) (by kernel_rfl) ?_
      simp only [pickL, List.filterMap_cons, List.filterMap_nil, List.getElem?_cons_zero, List.getElem?_cons_succ]
      repeat (refine take_one (v := ?_) (by rfl) ?_ ?_; rotate_left; (focus (intro w hSw; (try dsimp only at hSw); go_simp; (try with_reducible rfl))); simp only [Act.put, List.setIfInBounds_toArray, List.set_cons_zero, List.set_cons_succ])
      refine take_end ?_
      refine wpAnyZ_one (i := 15) (by kernel_rfl) (by rfl) (by rfl) (fun KK hK => ?_)
      simp only [List.getElem_toArray, List.getElem_cons_succ, List.getElem_cons_zero]
      have dx := K6x.out.at9
      have hrx := Below.refl w6.heap.size w6
      try go_simp
      have K7e := K6e.out.far (p := ⟨x, 4, none⟩) (by show q4 ≠ x; exact (K6e.out.type_ne K6x.out (by decide))) (.slice as2 (ms + 1) cs2)
      have K7x := K6x.out.set_ 4 (.slice as2 (ms + 1) cs2)
      refine hK.out _ _ (.inl (by kernel_rfl)) ?_
      clear hK KK dx hrx
      try simp only [Act.put, List.setIfInBounds_toArray, List.set_cons_zero, List.set_cons_succ]
      obtain ⟨w7, hw7⟩ : ∃ w7, w7 = w6.setCell ⟨x, 4, none⟩ (.slice as2 (ms + 1) cs2) := ⟨_, rfl⟩
      rw [← hw7] at K7e K7x R6
      rw [← hw7]
      clear hw7
      refine wpAnyZ_pures (n := 1) [16, 17] (by kernel_rfl) (by rfl) (by kernel_rfl) (by kernel_rfl) ?_
      simp only [pickL, List.filterMap_cons, List.filterMap_nil, List.getElem?_cons_zero, List.getElem?_cons_succ]
      repeat (refine take_one (v := ?_) (by rfl) ?_ ?_; rotate_left; (focus (intro w hSw; (try dsimp only at hSw); go_simp; (try with_reducible rfl))); simp only [Act.put, List.setIfInBounds_toArray, List.set_cons_zero, List.set_cons_succ])
      refine take_end ?_
      refine wpAnyZ_one (i := 18) (by kernel_rfl) (by rfl) (by rfl) (fun KK hK => ?_)
      simp only [List.getElem_toArray, List.getElem_cons_succ, List.getElem_cons_zero]
      have dx := K7x.at9
      have hrx := Below.refl w7.heap.size w7
      try go_simp
      refine hK.out _ _ (.inl (by kernel_rfl)) ?_
      clear hK KK dx hrx
      try simp only [Act.put, List.setIfInBounds_toArray, List.set_cons_zero, List.set_cons_succ]
      refine anyZ_done (by kernel_rfl) ?_
      clear K7x K7e
      go_wp2_with fail
      go_meet
      exact ⟨_, R6⟩
  case rest =>
  obtain ⟨sv1, I7⟩ := hcut
  clear s16 MK16 I4 I5 HW5 K4e K5x K5e KS5 OS5 A1 A2 A4 A5 OS HMS
  have MK17 : Hid (∀ w', Blk w' q4 69 #[.int .i64 8, .int .i64 0, .int .i64 vn, .int .i64 vt, .string b, .int .i64 er, .int .i64 s0, .int .i64 s1, .int .i64 s2, .int .i64 s3, .int .i64 s4, .int .i64 s5] → (w'.cell? ⟨q4, 6, none⟩ = some (.int .i64 s0) ∧ w'.cell? ⟨q4, 7, none⟩ = some (.int .i64 s1) ∧ w'.cell? ⟨q4, 8, none⟩ = some (.int .i64 s2) ∧ w'.cell? ⟨q4, 9, none⟩ = some (.int .i64 s3) ∧ w'.cell? ⟨q4, 10, none⟩ = some (.int .i64 s4) ∧ w'.cell? ⟨q4, 11, none⟩ = some (.int .i64 s5))) := Lib.hid fun w' u => ⟨u.cell 6, u.cell 7, u.cell 8, u.cell 9, u.cell 10, u.cell 11⟩
  have s17 : wc.drew.cell? ⟨q4, 6, none⟩ = some (.int .i64 s0) ∧ wc.drew.cell? ⟨q4, 7, none⟩ = some (.int .i64 s1) ∧ wc.drew.cell? ⟨q4, 8, none⟩ = some (.int .i64 s2) ∧ wc.drew.cell? ⟨q4, 9, none⟩ = some (.int .i64 s3) ∧ wc.drew.cell? ⟨q4, 10, none⟩ = some (.int .i64 s4) ∧ wc.drew.cell? ⟨q4, 11, none⟩ = some (.int .i64 s5) := MK17.out _ I7.out.e.drew
  have d6 := I7.out.i.at4
  have hr := Below.refl wc.heap.size wc
  go_upto_region 17 with fail
  refine wp_region_ordL (S := fun w' => w'.cell? ⟨q4, 6, none⟩ = some (.int .i64 s0) ∧ w'.cell? ⟨q4, 7, none⟩ = some (.int .i64 s1) ∧ w'.cell? ⟨q4, 8, none⟩ = some (.int .i64 s2) ∧ w'.cell? ⟨q4, 9, none⟩ = some (.int .i64 s3) ∧ w'.cell? ⟨q4, 10, none⟩ = some (.int .i64 s4) ∧ w'.cell? ⟨q4, 11, none⟩ = some (.int .i64 s5)) [0, 1, 2, 3, 4, 5, 6, 7, 8, 9, 10] 10 (by kernel_rfl) (by kernel_rfl) (by kernel_rfl) (by kernel_rfl) (by kernel_rfl) (by kernel_rfl) (s17) ?_
  simp only [pickL, List.filterMap_cons, List.filterMap_nil, List.getElem?_cons_zero, List.getElem?_cons_succ]
  repeat (refine ordL_take (v := ?_) (by rfl) (by rfl) ?_ ?_; rotate_left; (focus (intro w hSw; (try dsimp only at hSw); go_simp; (try with_reducible rfl))); simp only [Act.put, List.setIfInBounds_toArray, List.set_cons_zero, List.set_cons_succ])
  refine ordL_lone (by rfl) (by rfl) (fun KK hK => ?_)
  try go_simp
  obtain ⟨w8, hw8⟩ : ∃ w8, w8 = ((((wc.setCell ⟨q6, 0, none⟩ (.int .i64 5)).setCell ⟨q6, 1, none⟩ (.string ⟨#[]⟩)).setCell ⟨q6, 2, none⟩ (.int .i64 0)).setCell ⟨q6, 3, none⟩ (.int .i64 s0)).drew := ⟨_, rfl⟩
  have I8 : Hid (AdI B w w8 x t iv sv1 wv sc fr s5 rd tk ef (n + 1) q4 q6 q7 #[.int .i64 8, .int .i64 0, .int .i64 vn, .int .i64 vt, .string b, .int .i64 er, .int .i64 s0, .int .i64 s1, .int .i64 s2, .int .i64 s3, .int .i64 s4, .int .i64 s5] #[.int .i64 5, .string ⟨#[]⟩, .int .i64 0, .int .i64 s0] #[.int .i64 0, .string ⟨#[]⟩, .int .i64 0, .int .i64 0, .int .i64 0, .int .i64 0, .int .i64 0, .int .i64 0, .bool false]) := Lib.hid (by
    rw [hw8]
    exact (I7.out.setI HB.out.1 (foot_set4 (F := fun i => i = q6) (Foot.refl _ wc) rfl _ _ _ _) (blk_set4 I7.out.i _ _ _ _)).later (Below.refl _ _).drew)
  rw [← hw8]
  clear hw8 I7 d6 hr
  have d7 := I8.out.o.at9
  have hr := Below.refl w8.heap.size w8
  refine hK.out _ _ (.inr (MK17.out _ I8.out.e)) ?_
  clear hK KK s17
  try simp only [Act.put, List.setIfInBounds_toArray, List.set_cons_zero, List.set_cons_succ]
  repeat (refine ordL_take (v := ?_) (by rfl) (by rfl) ?_ ?_; rotate_left; (focus (intro w hSw; (try dsimp only at hSw); go_simp; (try with_reducible rfl))); simp only [Act.put, List.setIfInBounds_toArray, List.set_cons_zero, List.set_cons_succ])
  refine ordL_lone (by rfl) (by rfl) (fun KK hK => ?_)
  try go_simp
  obtain ⟨w9, hw9⟩ : ∃ w9, w9 = ((((((w8.setCell ⟨q7, 2, none⟩ (.int .i64 s0)).setCell ⟨q7, 3, none⟩ (.int .i64 s1)).setCell ⟨q7, 4, none⟩ (.int .i64 s2)).setCell ⟨q7, 5, none⟩ (.int .i64 s3)).setCell ⟨q7, 6, none⟩ (.int .i64 s4)).setCell ⟨q7, 7, none⟩ (.int .i64 s5)) := ⟨_, rfl⟩
  have I9 : Hid (AdI B w w9 x t iv sv1 wv sc fr s5 rd tk ef (n + 1) q4 q6 q7 #[.int .i64 8, .int .i64 0, .int .i64 vn, .int .i64 vt, .string b, .int .i64 er, .int .i64 s0, .int .i64 s1, .int .i64 s2, .int .i64 s3, .int .i64 s4, .int .i64 s5] #[.int .i64 5, .string ⟨#[]⟩, .int .i64 0, .int .i64 s0] #[.int .i64 0, .string ⟨#[]⟩, .int .i64 s0, .int .i64 s1, .int .i64 s2, .int .i64 s3, .int .i64 s4, .int .i64 s5, .bool false]) := Lib.hid (by
    rw [hw9]
    exact I8.out.setO HB.out.1 (foot_set (fun i => i = q7) (foot_set (fun i => i = q7) (foot_set (fun i => i = q7) (foot_set (fun i => i = q7) (foot_set (fun i => i = q7) (foot_set (fun i => i = q7) (Foot.refl _ w8) q7 2 rfl _) q7 3 rfl _) q7 4 rfl _) q7 5 rfl _) q7 6 rfl _) q7 7 rfl _) ((((((I8.out.o.set_ 2 _).set_ 3 _).set_ 4 _).set_ 5 _).set_ 6 _).set_ 7 _))
  rw [← hw9]
  clear hw9 I8 d7 hr
  have d7 := I9.out.o.at9
  have hr := Below.refl w9.heap.size w9
  refine hK.out _ _ (.inr (MK17.out _ I9.out.e)) ?_
  clear hK KK
  try simp only [Act.put, List.setIfInBounds_toArray, List.set_cons_zero, List.set_cons_succ]
  repeat (refine ordL_take (v := ?_) (by rfl) (by rfl) ?_ ?_; rotate_left; (focus (intro w hSw; (try dsimp only at hSw); go_simp; (try with_reducible rfl))); simp only [Act.put, List.setIfInBounds_toArray, List.set_cons_zero, List.set_cons_succ])
  refine ordL_lone (by rfl) (by rfl) (fun KK hK => ?_)
  try go_simp
  refine hK.out _ _ (.inl (by trivial)) ?_
  clear hK KK
  try simp only [Act.put, List.setIfInBounds_toArray, List.set_cons_zero, List.set_cons_succ]
  refine ordL_done ?_
  obtain ⟨w7, hw7⟩ : ∃ w7, w7 = w9.setCell ⟨q7, 8, none⟩ (.bool true) := ⟨_, rfl⟩
  have I7 : Hid (AdI B w w7 x t iv sv1 wv sc fr s5 rd tk ef (n + 1) q4 q6 q7 #[.int .i64 8, .int .i64 0, .int .i64 vn, .int .i64 vt, .string b, .int .i64 er, .int .i64 s0, .int .i64 s1, .int .i64 s2, .int .i64 s3, .int .i64 s4, .int .i64 s5] #[.int .i64 5, .string ⟨#[]⟩, .int .i64 0, .int .i64 s0] #[.int .i64 0, .string ⟨#[]⟩, .int .i64 s0, .int .i64 s1, .int .i64 s2, .int .i64 s3, .int .i64 s4, .int .i64 s5, .bool true]) := Lib.hid (by
    rw [hw7]
    exact I9.out.setO HB.out.1 (foot_set (fun i => i = q7) (Foot.refl _ w9) q7 8 rfl _) (I9.out.o.set_ 8 _))
  rw [← hw7]
  clear hw7 I9 d7 hr MK17
  obtain ⟨evc, hevc⟩ : ∃ evc : Array Value, evc = #[.int .i64 8, .int .i64 0, .int .i64 vn, .int .i64 vt, .string b, .int .i64 er, .int .i64 s0, .int .i64 s1, .int .i64 s2, .int .i64 s3, .int .i64 s4, .int .i64 s5] := ⟨_, rfl⟩
  rw [← hevc] at I7
  clear hevc
  obtain ⟨mi, xsi, hmi, oi⟩ := I7.out.l.ir
  obtain ⟨ai, ci, hvi, _⟩ := orow_form oi
  subst hvi
  have OI := Lib.hid oi
  have HMI := Lib.hid hmi
  clear oi hmi
  have MK18 : Hid (∀ w', ∀ cs : Array Value, Blk w' x 51 cs → cs[3]? = some (.slice ai mi ci) → Blk w' q6 107 #[.int .i64 5, .string ⟨#[]⟩, .int .i64 0, .int .i64 s0] → (w'.cell? ⟨x, 3, none⟩ = some (.slice ai mi ci) ∧ w'.frozen? ⟨x, 3, none⟩ = false ∧ w'.cell? ⟨q6, 0, none⟩ = some (.int .i64 5) ∧ w'.cell? ⟨q6, 1, none⟩ = some (.string ⟨#[]⟩) ∧ w'.cell? ⟨q6, 2, none⟩ = some (.int .i64 0) ∧ w'.cell? ⟨q6, 3, none⟩ = some (.int .i64 s0))) := Lib.hid fun w' cs k1 hc k2 => ⟨(k1.cell 3).trans hc, k1.frozen 3, k2.cell 0, k2.cell 1, k2.cell 2, k2.cell 3⟩
  have s18 : w7.drew.cell? ⟨x, 3, none⟩ = some (.slice ai mi ci) ∧ w7.drew.frozen? ⟨x, 3, none⟩ = false ∧ w7.drew.cell? ⟨q6, 0, none⟩ = some (.int .i64 5) ∧ w7.drew.cell? ⟨q6, 1, none⟩ = some (.string ⟨#[]⟩) ∧ w7.drew.cell? ⟨q6, 2, none⟩ = some (.int .i64 0) ∧ w7.drew.cell? ⟨q6, 3, none⟩ = some (.int .i64 s0) := MK18.out _ _ I7.out.l.blk.drew rfl I7.out.i.drew
  go_upto_region 18 with fail
  refine wp_region_ordL (S := fun w' => w'.cell? ⟨x, 3, none⟩ = some (.slice ai mi ci) ∧ w'.frozen? ⟨x, 3, none⟩ = false ∧ w'.cell? ⟨q6, 0, none⟩ = some (.int .i64 5) ∧ w'.cell? ⟨q6, 1, none⟩ = some (.string ⟨#[]⟩) ∧ w'.cell? ⟨q6, 2, none⟩ = some (.int .i64 0) ∧ w'.cell? ⟨q6, 3, none⟩ = some (.int .i64 s0)) [0, 1, 2, 3, 4, 5, 6, 7, 8, 9, 10] 10 (by kernel_rfl) (by kernel_rfl) (by kernel_rfl) (by kernel_rfl) (by kernel_rfl) (by kernel_rfl) (s18) ?_
  simp only [pickL, List.filterMap_cons, List.filterMap_nil, List.getElem?_cons_zero, List.getElem?_cons_succ]
  repeat (refine ordL_take (v := ?_) (by rfl) (by rfl) ?_ ?_; rotate_left; (focus (intro w hSw; (try dsimp only at hSw); go_simp; (try with_reducible rfl))); simp only [Act.put, List.setIfInBounds_toArray, List.set_cons_zero, List.set_cons_succ])
  have I18 : Hid (AdI B w (w7.drew.alloc (.cells #[.int .i64 5, .string ⟨#[]⟩, .int .i64 0, .int .i64 s0] 107)) x t (.slice ai mi ci) sv1 wv sc fr s5 rd tk ef (n + 1) q4 q6 q7 evc #[.int .i64 5, .string ⟨#[]⟩, .int .i64 0, .int .i64 s0] #[.int .i64 0, .string ⟨#[]⟩, .int .i64 s0, .int .i64 s1, .int .i64 s2, .int .i64 s3, .int .i64 s4, .int .i64 s5, .bool true]) := Lib.hid (I7.out.later (Below.alloc (Below.refl w7.heap.size w7).drew (Nat.le_refl _) _))
  refine ordL_lone (by rfl) (by rfl) (fun KK hK => ?_)
  try go_simp
  refine hK.out (_) (w7.drew.alloc (.cells #[.int .i64 5, .string ⟨#[]⟩, .int .i64 0, .int .i64 s0] 107)) (.inr (MK18.out _ _ I18.out.l.blk rfl I18.out.i)) ?_
  clear hK KK
  try simp only [Act.put, List.setIfInBounds_toArray, List.set_cons_zero, List.set_cons_succ]
  refine ordL_lone (by rfl) (by rfl) (fun KK hK => ?_)
  refine wp_append1 (B := B) info_Input rfl (by decide) (by decide) Tryz.underlying48 (.tmp 111) (.tmp 113) rfl (.slice ai mi ci) mi xsi rfl (orow_later OI.out (Below.alloc (Below.refl w7.heap.size w7).drew (Nat.le_refl _) _)) w7.drew.heap.size rfl [.int .i64 5, .string ⟨#[]⟩, .int .i64 0, .int .i64 s0] rfl ?a1 ?a2 ?a4 ?a5 ?a3
  case a1 => intro j u hj; exact ((Blk.new w7.drew 107 #[.int .i64 5, .string ⟨#[]⟩, .int .i64 0, .int .i64 s0]).cell j).trans (by simpa using hj)
  case a2 =>
    intro u hu
    simp only [List.mem_cons, List.not_mem_nil, or_false] at hu
    rcases hu with rfl | rfl | rfl | rfl <;> rfl
  case a4 => have := HMI.out; have := HB.out; omega
  case a5 => have := I18.out.f.size; have := HB.out; omega
  case a3 =>
  intro ai2 ci2 w8 o8 g8 gr8
  have fg : Foot (fun i => Value.ownBlock (.slice ai mi ci) = some i) (w7.drew.alloc (.cells #[.int .i64 5, .string ⟨#[]⟩, .int .i64 0, .int .i64 s0] 107)) w8 := Foot.grown g8 (fun _ e => e)
  have kx8 := I18.out.l.blk.foot fg (fun e => by obtain ⟨_, hc⟩ := I18.out.l.ir.kind e; exact (hc.type_ne I18.out.l.blk (by decide)) rfl)
  have kq8 := I18.out.i.foot fg (fun e => I18.out.ne6.2.2.1 e)
  have ko8 := I18.out.o.foot fg (fun e => I18.out.ne7.2.2.1 e)
  have L9 := (I18.out.l.more (Nat.le_succ (n + 1))).grewI g8 ⟨mi + 1, _, Nat.succ_le_succ HMI.out, o8⟩ (fun g hg => by
    rcases gr8 g hg with h | h
    · obtain ⟨_, hc⟩ := I18.out.l.ir.kind h
      exact ⟨hc.type_ne I18.out.l.blk (by decide), hc.type_ne I18.out.l.wan (by decide)⟩
    · have h1 := I18.out.l.blk.lt; have h2 := I18.out.l.wan.lt; exact ⟨by omega, by omega⟩)
  refine hK.out _ _ (.inr (MK18.out _ _ kx8 rfl kq8)) ?_
  clear hK KK
  have d8 : ∀ w', Below w8.heap.size w8 w' → w'.cell? ⟨x, 3, none⟩ = some (.slice ai mi ci) ∧ w'.frozen? ⟨x, 3, none⟩ = false := fun w' hb => ⟨(kx8.later hb).cell 3, (kx8.later hb).frozen 3⟩
  have hr8 := Below.refl w8.heap.size w8
  try simp only [Act.put, List.setIfInBounds_toArray, List.set_cons_zero, List.set_cons_succ]
  repeat (refine ordL_take (v := ?_) (by rfl) (by rfl) ?_ ?_; rotate_left; (focus (intro w hSw; (try dsimp only at hSw); go_simp; (try with_reducible rfl))); simp only [Act.put, List.setIfInBounds_toArray, List.set_cons_zero, List.set_cons_succ])
  refine ordL_lone (by rfl) (by rfl) (fun KK hK => ?_)
  try go_simp
  refine hK.out _ _ (.inl (by trivial)) ?_
  clear hK KK
  try simp only [Act.put, List.setIfInBounds_toArray, List.set_cons_zero, List.set_cons_succ]
  refine ordL_done ?_
  obtain ⟨w9, hw9⟩ : ∃ w9, w9 = w8.setCell ⟨x, 3, none⟩ (.slice ai2 (mi + 1) ci2) := ⟨_, rfl⟩
  rw [← hw9] at L9
  have fx : Foot (fun i => i = x) w8 w9 := by rw [hw9]; exact foot_set (fun i => i = x) (Foot.refl _ w8) x 3 rfl _
  have hxq : x < w.heap.size := I18.out.old.1
  have ko9 := ko8.foot fx (by show ¬ q7 = x; have := I18.out.lo; omega)
  have F9 : Hid (Foot (fun i => B ≤ i) w w9) := Lib.hid ((I18.out.f.trans (fg.mono fun i hi => (I18.out.l.ir.lt hi).1)).trans (fx.mono fun i hi => by rw [hi]; exact I18.out.l.lo.1))
  have HL9 := Lib.hid L9
  have HO9 := Lib.hid ko9
  have HT9 : Hid (t < w.heap.size ∧ w.heap.size ≤ q7) := Lib.hid ⟨I18.out.old.2.1, by have := I18.out.lo; omega⟩
  rw [← hw9]
  clear d8 hr8 hw9 fx hxq ko9 L9 fg kx8 kq8 ko8 gr8 g8 o8 I18 s18 MK18 OI I7
  obtain ⟨mw, xsw, hmw, ow⟩ := HL9.out.wr
  obtain ⟨aw, cw, hvw, _⟩ := orow_form ow
  subst hvw
  have OW := Lib.hid ow
  have HMW := Lib.hid hmw
  clear ow hmw
  have MK19 : Hid (∀ w', Blk w' t 61 #[.slice aw mw cw] → Blk w' q7 109 #[.int .i64 0, .string ⟨#[]⟩, .int .i64 s0, .int .i64 s1, .int .i64 s2, .int .i64 s3, .int .i64 s4, .int .i64 s5, .bool true] → (w'.cell? ⟨t, 0, none⟩ = some (.slice aw mw cw) ∧ w'.frozen? ⟨t, 0, none⟩ = false ∧ w'.cell? ⟨q7, 0, none⟩ = some (.int .i64 0) ∧ w'.cell? ⟨q7, 1, none⟩ = some (.string ⟨#[]⟩) ∧ w'.cell? ⟨q7, 2, none⟩ = some (.int .i64 s0) ∧ w'.cell? ⟨q7, 3, none⟩ = some (.int .i64 s1) ∧ w'.cell? ⟨q7, 4, none⟩ = some (.int .i64 s2) ∧ w'.cell? ⟨q7, 5, none⟩ = some (.int .i64 s3) ∧ w'.cell? ⟨q7, 6, none⟩ = some (.int .i64 s4) ∧ w'.cell? ⟨q7, 7, none⟩ = some (.int .i64 s5) ∧ w'.cell? ⟨q7, 8, none⟩ = some (.bool true))) := Lib.hid fun w' k1 k2 => ⟨k1.cell 0, k1.frozen 0, k2.cell 0, k2.cell 1, k2.cell 2, k2.cell 3, k2.cell 4, k2.cell 5, k2.cell 6, k2.cell 7, k2.cell 8⟩
  have s19 : w9.drew.cell? ⟨t, 0, none⟩ = some (.slice aw mw cw) ∧ w9.drew.frozen? ⟨t, 0, none⟩ = false ∧ w9.drew.cell? ⟨q7, 0, none⟩ = some (.int .i64 0) ∧ w9.drew.cell? ⟨q7, 1, none⟩ = some (.string ⟨#[]⟩) ∧ w9.drew.cell? ⟨q7, 2, none⟩ = some (.int .i64 s0) ∧ w9.drew.cell? ⟨q7, 3, none⟩ = some (.int .i64 s1) ∧ w9.drew.cell? ⟨q7, 4, none⟩ = some (.int .i64 s2) ∧ w9.drew.cell? ⟨q7, 5, none⟩ = some (.int .i64 s3) ∧ w9.drew.cell? ⟨q7, 6, none⟩ = some (.int .i64 s4) ∧ w9.drew.cell? ⟨q7, 7, none⟩ = some (.int .i64 s5) ∧ w9.drew.cell? ⟨q7, 8, none⟩ = some (.bool true) := MK19.out _ HL9.out.wan.drew HO9.out.drew
  go_upto_region 19 with fail
  refine wp_region_ordL (S := fun w' => w'.cell? ⟨t, 0, none⟩ = some (.slice aw mw cw) ∧ w'.frozen? ⟨t, 0, none⟩ = false ∧ w'.cell? ⟨q7, 0, none⟩ = some (.int .i64 0) ∧ w'.cell? ⟨q7, 1, none⟩ = some (.string ⟨#[]⟩) ∧ w'.cell? ⟨q7, 2, none⟩ = some (.int .i64 s0) ∧ w'.cell? ⟨q7, 3, none⟩ = some (.int .i64 s1) ∧ w'.cell? ⟨q7, 4, none⟩ = some (.int .i64 s2) ∧ w'.cell? ⟨q7, 5, none⟩ = some (.int .i64 s3) ∧ w'.cell? ⟨q7, 6, none⟩ = some (.int .i64 s4) ∧ w'.cell? ⟨q7, 7, none⟩ = some (.int .i64 s5) ∧ w'.cell? ⟨q7, 8, none⟩ = some (.bool true)) [0, 1, 2, 3, 4, 5, 6, 7, 8] 8 (by kernel_rfl) (by kernel_rfl) (by kernel_rfl) (by kernel_rfl) (by kernel_rfl) (by kernel_rfl) (s19) ?_
  simp only [pickL, List.filterMap_cons, List.filterMap_nil, List.getElem?_cons_zero, List.getElem?_cons_succ]
  repeat (refine ordL_take (v := ?_) (by rfl) (by rfl) ?_ ?_; rotate_left; (focus (intro w hSw; (try dsimp only at hSw); go_simp; (try with_reducible rfl))); simp only [Act.put, List.setIfInBounds_toArray, List.set_cons_zero, List.set_cons_succ])
  have L19 := Lib.hid (HL9.out.later (Below.alloc (Below.refl w9.heap.size w9).drew (Nat.le_refl _) (.cells #[.int .i64 0, .string ⟨#[]⟩, .int .i64 s0, .int .i64 s1, .int .i64 s2, .int .i64 s3, .int .i64 s4, .int .i64 s5, .bool true] 109)))
  have O19 := Lib.hid (HO9.out.later (Below.alloc (Below.refl w9.heap.size w9).drew (Nat.le_refl _) (.cells #[.int .i64 0, .string ⟨#[]⟩, .int .i64 s0, .int .i64 s1, .int .i64 s2, .int .i64 s3, .int .i64 s4, .int .i64 s5, .bool true] 109)))
  refine ordL_lone (by rfl) (by rfl) (fun KK hK => ?_)
  try go_simp
  refine hK.out (_) (w9.drew.alloc (.cells #[.int .i64 0, .string ⟨#[]⟩, .int .i64 s0, .int .i64 s1, .int .i64 s2, .int .i64 s3, .int .i64 s4, .int .i64 s5, .bool true] 109)) (.inr (MK19.out _ L19.out.wan O19.out)) ?_
  clear hK KK
  try simp only [Act.put, List.setIfInBounds_toArray, List.set_cons_zero, List.set_cons_succ]
  refine ordL_lone (by rfl) (by rfl) (fun KK hK => ?_)
  refine wp_append1 (B := B) info_Out rfl (by decide) (by decide) Tryz.underlying61 (.tmp 120) (.tmp 122) rfl (.slice aw mw cw) mw xsw rfl (orow_later OW.out (Below.alloc (Below.refl w9.heap.size w9).drew (Nat.le_refl _) _)) w9.drew.heap.size rfl [.int .i64 0, .string ⟨#[]⟩, .int .i64 s0, .int .i64 s1, .int .i64 s2, .int .i64 s3, .int .i64 s4, .int .i64 s5, .bool true] rfl ?b1 ?b2 ?b4 ?b5 ?b3
  case b1 => intro j u hj; exact ((Blk.new w9.drew 109 #[.int .i64 0, .string ⟨#[]⟩, .int .i64 s0, .int .i64 s1, .int .i64 s2, .int .i64 s3, .int .i64 s4, .int .i64 s5, .bool true]).cell j).trans (by simpa using hj)
  case b2 =>
    intro u hu
    simp only [List.mem_cons, List.not_mem_nil, or_false] at hu
    rcases hu with rfl | rfl | rfl | rfl | rfl | rfl | rfl | rfl | rfl <;> rfl
  case b4 => have := HMW.out; have := HB.out; omega
  case b5 =>
    have h1 := F9.out.size
    have h2 := HB.out
    have h3 := (Below.alloc (Below.refl w9.heap.size w9).drew (Nat.le_refl _) (.cells #[.int .i64 0, .string ⟨#[]⟩, .int .i64 s0, .int .i64 s1, .int .i64 s2, .int .i64 s3, .int .i64 s4, .int .i64 s5, .bool true] 109)).size
    omega
  case b3 =>
  intro aw2 cw2 w10 o10 g10 gr10
  have fg : Foot (fun i => Value.ownBlock (.slice aw mw cw) = some i) (w9.drew.alloc (.cells #[.int .i64 0, .string ⟨#[]⟩, .int .i64 s0, .int .i64 s1, .int .i64 s2, .int .i64 s3, .int .i64 s4, .int .i64 s5, .bool true] 109)) w10 := Foot.grown g10 (fun _ e => e)
  have hold := HL9.out.old
  have kt10 := L19.out.wan.foot fg (fun e => by obtain ⟨_, hc⟩ := L19.out.wr.kind e; exact (hc.type_ne L19.out.wan (by decide)) rfl)
  have hq7 : ¬ Value.ownBlock (.slice aw mw cw) = some q7 := fun e => by
    have h1 := HOLD.out.2.2.2.2 q7 e
    have h2 := HT9.out.2
    omega
  have kq10 := O19.out.foot fg hq7
  have L11 := (L19.out.more (Nat.le_succ ((n + 1) + 1))).grewW g10 ⟨mw + 1, _, Nat.succ_le_succ HMW.out, o10⟩ (fun g hg => by
    rcases gr10 g hg with h | h
    · obtain ⟨_, hc⟩ := L19.out.wr.kind h
      exact ⟨hc.type_ne L19.out.blk (by decide), hc.type_ne L19.out.wan (by decide)⟩
    · have h1 := L19.out.blk.lt; have h2 := L19.out.wan.lt; exact ⟨by omega, by omega⟩)
  refine hK.out _ _ (.inr (MK19.out _ kt10 kq10)) ?_
  clear hK KK
  have d10 : ∀ w', Below w10.heap.size w10 w' → w'.cell? ⟨t, 0, none⟩ = some (.slice aw mw cw) ∧ w'.frozen? ⟨t, 0, none⟩ = false := fun w' hb => ⟨(kt10.later hb).cell 0, (kt10.later hb).frozen 0⟩
  have hr10 := Below.refl w10.heap.size w10
  try simp only [Act.put, List.setIfInBounds_toArray, List.set_cons_zero, List.set_cons_succ]
  repeat (refine ordL_take (v := ?_) (by rfl) (by rfl) ?_ ?_; rotate_left; (focus (intro w hSw; (try dsimp only at hSw); go_simp; (try with_reducible rfl))); simp only [Act.put, List.setIfInBounds_toArray, List.set_cons_zero, List.set_cons_succ])
  refine ordL_lone (by rfl) (by rfl) (fun KK hK => ?_)
  try go_simp
  refine hK.out _ _ (.inl (by trivial)) ?_
  clear hK KK
  try simp only [Act.put, List.setIfInBounds_toArray, List.set_cons_zero, List.set_cons_succ]
  refine ordL_done ?_
  have F11 : Foot (fun i => B ≤ i) w (w10.setCell ⟨t, 0, none⟩ (.slice aw2 (mw + 1) cw2)) := ((F9.out.up (Below.alloc (Below.refl w9.heap.size w9).drew (Nat.le_refl _) _)).trans (fg.mono fun i hi => (L19.out.wr.lt hi).1)).trans (foot_set (fun i => B ≤ i) (Foot.refl _ w10) t 0 L19.out.lo.2 _)
  have HL11 := Lib.hid L11
  have HF11 := Lib.hid F11
  clear d10 hr10 L11 F11 fg hold kt10 kq10 gr10 g10 o10 s19
  go_wp2_with fail
  (try simp only [Exit.inBlock, Exit.then])
  go_end0
  exact ⟨rfl, _, _, _, HL11.out, HF11.out⟩
end Go.Proofs.YtbhgmccaecmpjaaGreat
