/-
  fifo.New, turns.New: what they make.
  Conditions: none.
-/
import Derived.Test.YtbhgmccaecmpjaaGreatW06
import Derived.Test.YtbhgmccaecmpjaaGreatW07
import Derived.Maps.OwnSet
import Derived.Deep.RegionLaw
import Derived.Test.YtbhgmccaecmpjaaGreatW03
namespace Go.Proofs.YtbhgmccaecmpjaaGreat
set_option linter.unusedVariables false
set_option linter.unusedSimpArgs false
open Go.RowKit

theorem info_boolT : (Tryz.prog.info? 4).map (fun i => (i.zero, i.size, i.bytes)) = some (some (.bool false), 1, 1) := by kernel_rfl
/-- A slice that is made, at any moment. -/
theorem mk_slice {P : Program} {o : Oper} {a : Act} {u : World} {R : Value → World → Prop} (l c : Operand) (t : TypeId) (hop : o.op = Op.makeSlice t l c)
    (e : TypeId) (z : Value) (bytes n : Nat) (infoE : (P.info? e).map (fun i => (i.zero, i.size, i.bytes)) = some (some z, 1, bytes)) (h1 : P.underlying t = some (.slice e)) (hl : a.eval l = .int .i64 (n : Nat)) (hc : a.eval c = .int .i64 (n : Nat)) (hn : n ≤ 1000000) (hb : bytes ≤ 1000)
    (hK : ∀ w', w'.ownsRow u.heap.size e 1 (.slice (some ⟨u.heap.size, 0, none⟩) n n) n (madeCells z.cells (n * 1)).toList → u.grownBy w' none → R (.slice (some ⟨u.heap.size, 0, none⟩) n n) w') : yieldsV P R ((execOp a.eval o).run P u) := by
  obtain ⟨i0, hi, hz0, hz1, hz2⟩ := info_parts infoE
  have hbb : bytes * n ≤ 1000 * 1000000 := Nat.mul_le_mul hb hn
  obtain ⟨w', hrun, r1, r2⟩ := run_make_full (P := P) u u.heap.size t e i0 z 1 h1 hi hz0 hz1 .i64 .i64 n (by rw [hz2]; omega) (by unfold maxLen; omega) (Nat.le_refl _)
  simp [execOp, hop, hl, hc, hrun, Result.andThen, yieldsV]
  exact hK w' r1 r2
theorem made_step {w w1 : World} {t : TypeId} {z : Value} {n : Nat} (h1 : 0 < n) (h2 : n ≤ 1000000) (r : w1.ownsRow w.heap.size t 1 (.slice (some ⟨w.heap.size, 0, none⟩) n n) n (madeCells #[z] (n * 1)).toList) (g : w.grownBy w1 none) :
    Arr w1 w.heap.size t n z ∧ w.heap.size < w1.heap.size ∧ Below w.heap.size w w1 := by
  rw [Nat.mul_one] at r
  have A := Arr.made h1 h2 r
  exact ⟨A, A.lt, ⟨g.os, g.tape, g.output, g.size, fun k hk => g.block k hk (fun e => by cases e)⟩⟩
/-- .. is an array. -/
def arrP (t : TypeId) (z : Value) (n : Nat) : MkP := fun v lo hi w => v = .slice (some ⟨lo, 0, none⟩) n n ∧ Arr w lo t n z ∧ lo < hi
theorem arrP_stays (t : TypeId) (z : Value) (n : Nat) : (arrP t z n).stays := fun _ _ _ _ _ b _ h => ⟨h.1, h.2.1.later b, h.2.2⟩
theorem mk_arr {P : Program} {o : Oper} {a : Act} {u : World} (l c : Operand) (t : TypeId) (hop : o.op = Op.makeSlice t l c)
    (e : TypeId) (z : Value) (bytes n : Nat) (infoE : (P.info? e).map (fun i => (i.zero, i.size, i.bytes)) = some (some z, 1, bytes)) (hz : z.cells = #[z]) (h1 : P.underlying t = some (.slice e)) (hl : a.eval l = .int .i64 (n : Nat)) (hc : a.eval c = .int .i64 (n : Nat)) (h0 : 0 < n) (hn : n ≤ 1000000) (hb : bytes ≤ 1000) :
    yieldsV P (fun v u' => Below u.heap.size u u' ∧ arrP e z n v u.heap.size u'.heap.size u') ((execOp a.eval o).run P u) := by
  refine mk_slice l c t hop e z bytes n infoE h1 hl hc hn hb fun w' r g => ?_
  rw [hz] at r
  obtain ⟨A, lt, b⟩ := made_step h0 hn r g
  exact ⟨b, rfl, A, lt⟩
set_option maxRecDepth 100000 in
set_option maxHeartbeats 8000000 in
theorem fiNew (w : World) (n : Nat) (hn : 1 ≤ n ∧ n ≤ 1024) : Calls Tryz.prog 40 #[.int .i64 n] w fun e w' => ∃ x a b c, e = .returned (.pointer (some ⟨x, 0, none⟩)) ∧ Fif w' x a b c n false ∧ FifD x a b c ∧ (a < x ∧ b < x ∧ c < x) ∧ (w.heap.size ≤ a ∧ w.heap.size ≤ b ∧ w.heap.size ≤ c) ∧ Below w.heap.size w w' := by
  have h1 : (1 : Int) ≤ (n : Int) := by omega
  have h2 : (n : Int) ≤ 1024 := by omega
  go_enter Tryz.func40, Tryz.ntmps40
  go_upto_region 2 with fail
  refine wp_region_mk w.heap.size 6 [1, 3, 5] [(1, arrP 3 (.int .i64 0) n), (3, arrP 3 (.int .i64 0) n), (5, arrP 4 (.bool false) n)] (Nat.le_refl _) (by kernel_rfl) (by kernel_rfl) (by kernel_rfl) rfl (by
    intro p hp
    simp only [List.mem_cons, List.not_mem_nil, or_false] at hp
    rcases hp with rfl | rfl | rfl <;> exact arrP_stays _ _ _) ?_
  simp only [List.take_succ_cons, List.take_zero, List.drop_succ_cons, List.drop_zero]
  have hu : ∀ u : Later w.heap.size w, Below w.heap.size w u.world := Later.below
  repeat (refine wpMk_calm (by rfl) (fun K hK => ?_); go_simp; first | (refine hK _ ?_; clear hK K) | (apply Exists.intro; refine ⟨fun _ => ?_, hK _ ?_⟩; (fail); clear hK K))
  refine wpMk_make (by rfl) (by rfl) (fun u => mk_arr (n := n) _ _ _ (by rfl) _ _ _ info_intT rfl Tryz.underlying33 (by rfl) (by rfl) (by omega) (by omega) (by decide)) ?_
  repeat (refine wpMk_calm (by rfl) (fun K hK => ?_); go_simp; first | (refine hK _ ?_; clear hK K) | (apply Exists.intro; refine ⟨fun _ => ?_, hK _ ?_⟩; (fail); clear hK K))
  refine wpMk_make (by rfl) (by rfl) (fun u => mk_arr (n := n) _ _ _ (by rfl) _ _ _ info_intT rfl Tryz.underlying33 (by rfl) (by rfl) (by omega) (by omega) (by decide)) ?_
  repeat (refine wpMk_calm (by rfl) (fun K hK => ?_); go_simp; first | (refine hK _ ?_; clear hK K) | (apply Exists.intro; refine ⟨fun _ => ?_, hK _ ?_⟩; (fail); clear hK K))
  refine wpMk_make (by rfl) (by rfl) (fun u => mk_arr (n := n) _ _ _ (by rfl) _ _ _ info_boolT rfl Tryz.underlying155 (by rfl) (by rfl) (by omega) (by omega) (by decide)) ?_
  refine wpMk_nil ?_
  intro w1 b1
  repeat (refine mkThen_skip (by rfl) ?_)
  refine mkThen_take (by rfl) ?_
  rintro _ a ha B1 - C1 - ⟨rfl, Aa, La⟩
  repeat (refine mkThen_skip (by rfl) ?_)
  refine mkThen_take (by rfl) ?_
  rintro _ b hb B2 - C2 D2 ⟨rfl, Ab, Lb⟩
  repeat (refine mkThen_skip (by rfl) ?_)
  refine mkThen_take (by rfl) ?_
  rintro _ c hc B3 - C3 D3 ⟨rfl, Ac, Lc⟩
  refine mkThen_end ?_
  have e1 := D2 (a, ha) (by simp)
  have e2 := D3 (a, ha) (by simp)
  have e3 := D3 (b, hb) (by simp)
  simp only at e1 e2 e3
  clear hu D2 D3
  have hr := Below.refl w1.heap.size w1
  go_wp2_with fail
  go_ret
  have ba := Below.alloc (Below.refl w1.heap.size w1) (Nat.le_refl _) (.cells #[.slice (some ⟨a, 0, none⟩) n n, .slice (some ⟨b, 0, none⟩) n n, .slice (some ⟨c, 0, none⟩) n n, .int .i64 (-1), .int .i64 (-1), .int .i64 0] 157)
  refine ⟨w1.heap.size, a, b, c, rfl, ⟨Blk.new _ _ _, ⟨_, Aa.later ba, fun h => by cases h⟩, ⟨_, Ab.later ba, fun h => by cases h⟩, Ac.later ba⟩, ⟨by omega⟩, by omega, by omega, b1.up ba⟩
end Go.Proofs.YtbhgmccaecmpjaaGreat

namespace Go.Proofs.YtbhgmccaecmpjaaGreat
set_option linter.unusedVariables false
set_option linter.unusedSimpArgs false
open Go.RowKit

theorem Fif.lt {w : World} {x a b c n : Nat} {on : Bool} (h : Fif w x a b c n on) : x < w.heap.size ∧ a < w.heap.size ∧ b < w.heap.size ∧ c < w.heap.size := by
  obtain ⟨_, ha, _⟩ := h.next
  obtain ⟨_, hb, _⟩ := h.prev
  exact ⟨h.blk.lt, ha.lt, hb.lt, h.in_.lt⟩
theorem Pur.lt {w : World} {x a n : Nat} {q p : Int} (h : Pur w x a n q p) : x < w.heap.size ∧ a < w.heap.size := ⟨h.blk.lt, h.arr.lt⟩
theorem Tur.lt {w : World} {t : TB} {n : Nat} {q p : Int} {waits turn : Bool} {k : Nat} (h : Tur w t n q waits turn p k) : ∀ i, t.in_ i → i < w.heap.size := by
  have h1 := h.blk.lt
  have h2 := h.row.lt
  have h3 := h.prs.lt
  intro i hi
  unfold TB.in_ at hi
  omega
set_option maxRecDepth 100000 in
theorem tuNew (w : World) (n : Nat) (q : Nat) (hn : 1 ≤ n ∧ n ≤ 1024) (hq : 1 ≤ q ∧ q ≤ 1000000) : Calls Tryz.prog 22 #[.int .i64 n, .int .i64 q] w fun e w' => ∃ t : TB, e = .returned (.pointer (some ⟨t.x, 0, none⟩)) ∧ Tur w' t n q false false 0 0 ∧ t.ok ∧ (∀ i, t.in_ i → w.heap.size ≤ i) ∧ Below w.heap.size w w' := by
  go_enter Tryz.func22, Tryz.ntmps22
  go_wp2_with fail
  refine (fiNew w n hn).mono ?_; rintro e w1 ⟨x, a, b, c, rfl, hf, hd, hx, hlo, b1⟩
  go_wp2_with fail
  refine (puNew w1 n q hn (by omega)).mono ?_; rintro e w2 ⟨px, pa, rfl, hp, hpx, hplo, b2⟩
  go_wp2_with fail
  go_ret
  have ba := Below.alloc (Below.refl w2.heap.size w2) (Nat.le_refl _) (.cells #[.pointer (some ⟨x, 0, none⟩), .pointer (some ⟨px, 0, none⟩), .int .i64 (-1), .int .i64 0] 117)
  have l1 := hf.lt
  have l2 := hp.lt
  have l3 := hd.d
  have s1 := b1.size
  have s2 := b2.size
  refine ⟨⟨w2.heap.size, x, a, b, c, px, pa⟩, rfl, ⟨Blk.new _ _ _, (hf.later b2).later ba, hp.later ba⟩, ⟨hd, by simp only; omega, by simp only; omega, by simp only; omega, by simp only; omega⟩, ?_, (b1.up b2).up ba⟩
  intro i hi
  unfold TB.in_ at hi
  simp only at hi
  omega
end Go.Proofs.YtbhgmccaecmpjaaGreat

namespace Go.Proofs.YtbhgmccaecmpjaaGreat
set_option linter.unusedVariables false
set_option linter.unusedSimpArgs false
open Go.RowKit Go.ChangeMaps

abbrev DU := DataW Unit
/-- Block m is a map of ints that reads as D. -/
def MapI (w : World) (m : Nat) (D : DU) : Prop := ∃ n, n ≤ 1000000 ∧ w.ownsMap Tryz.prog 3 (plainElem Tryz.prog 3) m n D
theorem int_key : Maps.Keyed Tryz.prog 3 := Maps.int_keyed Tryz.underlying3
section
variable {w w' : World} {m : Nat} {D : DU} {F : Nat → Prop}
theorem MapI.lt (h : MapI w m D) : m < w.heap.size := by obtain ⟨n, _, hn⟩ := h; exact hn.lt
theorem MapI.same (h : MapI w m D) (hb : w'.heap[m]? = w.heap[m]?) : MapI w' m D := by
  obtain ⟨n, hn, es, clock, h1, r⟩ := h
  exact ⟨n, hn, es, clock, hb.trans h1, r⟩
theorem MapI.later (h : MapI w m D) (k : Below w.heap.size w w') : MapI w' m D := h.same (k.block _ h.lt)
theorem MapI.foot (h : MapI w m D) (k : Foot F w w') (hm : ¬ F m) : MapI w' m D := h.same (k.block _ h.lt hm)
theorem MapI.set (h : MapI w m D) {p : Addr} (hp : m ≠ p.block) (u : Value) : MapI (w.setCell p u) m D := h.same (Below.heap_setCell _ _ _ _ hp)
/-- .. of no more entries than it reads as. -/
theorem own_tight {P : Program} {k : TypeId} {R : Value → Option (DU × List MemPlace)} {n : Nat} (h : w.ownsMap P k R m n D) : w.ownsMap P k R m (Maps.size D) D := by
  obtain ⟨es, clock, h1, h2, h3, rfl⟩ := h
  refine ⟨es, clock, h1, h2, ?_, rfl⟩
  have e1 : Maps.size (DataW.map ((es.toList.map (WideElems.rg P k R)).foldr DataW.insert [])) = es.size := by simp [Maps.size, length_sorted]
  exact Nat.le_of_eq e1.symm
theorem MapI.of {n : Nat} (h : w.ownsMap Tryz.prog 3 (plainElem Tryz.prog 3) m n D) (hD : Maps.size D ≤ 1000000) : MapI w m D := ⟨_, hD, own_tight h⟩
theorem MapI.len (h : MapI w m D) : (Builtin.len_ #[57] 3 #[.map (some m)]).run Tryz.prog w = .ok (.int .i64 (Maps.size D)) w := by
  obtain ⟨n, _, hn⟩ := h
  exact hn.len Tryz.underlying57 _
end
theorem foot_map {w w' : World} {m : Nat} (h : w.mapTurned w' m) : Foot (fun i => i = m) w w' := by
  have g := h.grown
  exact ⟨g.os, g.tape, g.output, g.size, fun i hi hn => g.block i hi (fun e => hn (Option.some.inj e))⟩
theorem key0 : keyOf Tryz.prog 3 (.int .i64 0) = some (.int .i64 0) := by kernel_rfl
/-- The map with 0 in it, or with nothing. -/
def mapD (on : Bool) (v : Int) : DU := .map (if on then [(.int .i64 0, .lit (.int .i64 v))] else [])
theorem mapD_put (on : Bool) (u v : Int) : (mapD on u).put (.int .i64 0) (.lit (.int .i64 v)) = mapD true v := by cases on <;> rfl
theorem mapD_del (on : Bool) (v : Int) : (mapD on v).del (.int .i64 0) = mapD false 0 := by cases on <;> rfl
theorem mapD_has (on : Bool) (v : Int) : Maps.has (mapD on v) (.int .i64 0) = on := by cases on <;> rfl
theorem mapD_size (on : Bool) (v : Int) : Maps.size (mapD on v) = if on then 1 else 0 := by cases on <;> rfl
theorem mapD_le (on : Bool) (v : Int) : Maps.size (mapD on v) ≤ 1000000 := by rw [mapD_size]; cases on <;> decide
theorem zero_int (w : World) : (zeroValue 3).run Tryz.prog w = .ok (.int .i64 0) w := by
  kernel_rfl
end Go.Proofs.YtbhgmccaecmpjaaGreat

namespace Go.Proofs.YtbhgmccaecmpjaaGreat
set_option linter.unusedVariables false
set_option linter.unusedSimpArgs false
open Go.RowKit Go.ChangeMaps

/-- An array of n cells, the first k of which hold u. -/
def ArrK (w : World) (a : Nat) (t : TypeId) (n k : Nat) (u : Value) : Prop := (∃ cs, Blk w a t cs ∧ cs.size = n ∧ (0 < k → cs[0]? = some u)) ∧ 0 < n ∧ n ≤ 1000000
theorem ArrK.set {w : World} {a n k : Nat} {t : TypeId} {u : Value} (h : ArrK w a t n k u) : ArrK (w.setCell ⟨a, k, none⟩ u) a t n (k + 1) u := by
  obtain ⟨⟨cs, hb, hs, h0⟩, r⟩ := h
  refine ⟨⟨cs.setIfInBounds k u, hb.set_ k u, by simp [hs], fun _ => ?_⟩, r⟩
  by_cases hk : k = 0
  · subst hk; simp [hs, r.1]
  · rw [Array.getElem?_setIfInBounds_ne (by omega)]; exact h0 (by omega)
theorem ArrK.at_ {w : World} {a n k : Nat} {t : TypeId} {u : Value} (h : ArrK w a t n k u) (hk : k < n) : ∃ v, ∀ w', Below w.heap.size w w' → w'.cell? ⟨a, k, none⟩ = some v ∧ ∀ i, w'.frozen? ⟨a, i, none⟩ = false := by
  obtain ⟨⟨cs, hb, hs, h0⟩, r⟩ := h
  refine ⟨cs[k]'(by omega), fun w' hw => ⟨?_, fun i => (hb.later hw).frozen i⟩⟩
  rw [(hb.later hw).cell k]
  exact Array.getElem?_eq_getElem (by omega)
theorem ArrK.full {w : World} {a n k : Nat} {t : TypeId} {u : Value} (h : ArrK w a t n k u) (hk : 0 < k) : Arr w a t n u := by
  obtain ⟨⟨cs, hb, hs, h0⟩, r⟩ := h
  exact ⟨⟨cs, hb, h0 hk⟩, r⟩
theorem ArrK.lt {w : World} {a n k : Nat} {t : TypeId} {u : Value} (h : ArrK w a t n k u) : a < w.heap.size := by obtain ⟨⟨cs, hb, _⟩, _⟩ := h; exact hb.lt
theorem ArrK.later {w w' : World} {a n k : Nat} {t : TypeId} {u : Value} (h : ArrK w a t n k u) (b : Below w.heap.size w w') : ArrK w' a t n k u := by
  obtain ⟨⟨cs, hb, hs, h0⟩, r⟩ := h
  exact ⟨⟨cs, hb.later b, hs, h0⟩, r⟩

/-- The blocks of slots. -/
structure SB where
  x : Nat
  who : Nat
  m : Nat
def SB.in_ (s : SB) (i : Nat) : Prop := i = s.x ∨ i = s.who ∨ i = s.m
structure SB.ok (s : SB) : Prop where
  d : s.x ≠ s.who ∧ s.x ≠ s.m ∧ s.who ≠ s.m
def liI (on : Bool) : Int := if on then 0 else -1
/-- Slots: whether 0 is in slot 0, and the next number. -/
structure Slo (w : World) (s : SB) (n : Nat) (on : Bool) (nx : Nat) : Prop where
  blk : Blk w s.x 111 #[.slice (some ⟨s.who, 0, none⟩) n n, .map (some s.m), .int .i64 (nx : Nat)]
  who : Arr w s.who 3 n (.int .i64 (liI on))
  at_ : MapI w s.m (mapD on 0)
  nb : n ≤ 1024
section
variable {w w' : World} {s : SB} {n nx : Nat} {on : Bool} {F : Nat → Prop}
theorem Slo.later (h : Slo w s n on nx) (b : Below w.heap.size w w') : Slo w' s n on nx := ⟨h.blk.later b, h.who.later b, h.at_.later b, h.nb⟩
theorem Slo.foot (h : Slo w s n on nx) (f : Foot F w w') (hF : ∀ i, s.in_ i → ¬ F i) : Slo w' s n on nx :=
  ⟨h.blk.foot f (hF _ (.inl rfl)), h.who.foot f (hF _ (.inr (.inl rfl))), h.at_.foot f (hF _ (.inr (.inr rfl))), h.nb⟩
theorem Slo.lt (h : Slo w s n on nx) : ∀ i, s.in_ i → i < w.heap.size := by
  have h1 := h.blk.lt
  have h2 := h.who.lt
  have h3 := h.at_.lt
  intro i hi
  unfold SB.in_ at hi
  omega
end

set_option maxRecDepth 100000 in
set_option maxHeartbeats 4000000 in
theorem slNew (w : World) (n : Nat) (hn : 1 ≤ n ∧ n ≤ 1024) : Calls Tryz.prog 21 #[.int .i64 n] w fun e w' => ∃ s : SB, e = .returned (.pointer (some ⟨s.x, 0, none⟩)) ∧ Slo w' s n false 0 ∧ s.ok ∧ (∀ i, s.in_ i → w.heap.size ≤ i) ∧ Below w.heap.size w w' := by
  have h1 : (1 : Int) ≤ (n : Int) := by omega
  have h2 : (n : Int) ≤ 1024 := by omega
  obtain ⟨i0, hi0, hz0, hz1, hz2⟩ := info_parts info_intT
  go_enter Tryz.func21, Tryz.ntmps21
  go_wp2_with (at_make; refine wpList_make_full _ rfl _ _ 33 rfl w.heap.size 3 i0 (.int .i64 0) 1 Tryz.underlying33 hi0 hz0 hz1 .i64 .i64 _ _ n rfl rfl ?m1 ?m2 ?m3 ?m4 (Nat.le_refl _) ?m5)
  case m1 => first | rfl | omega
  case m2 => first | rfl | omega
  case m3 => rw [hz2]; omega
  case m4 => unfold maxLen; omega
  case m5 =>
  intro w1 r1 g1
  have A1 := Arr.made (by omega) (by omega) r1
  obtain ⟨-, cs, K1, hcs⟩ := row_full r1
  have b1 : Below w.heap.size w w1 := ⟨g1.os, g1.tape, g1.output, g1.size, fun k hk => g1.block k hk (fun e => by cases e)⟩
  clear r1 g1 hi0 hz0 hz1 hz2
  have hw : w.heap.size < w1.heap.size := A1.lt
  clear A1
  obtain ⟨a, ha⟩ : ∃ a, w.heap.size = a := ⟨_, rfl⟩
  rw [ha] at K1 hw
  try rw [ha]
  have AK : ArrK w1 a 3 n 0 (.int .i64 (-1)) := ⟨⟨cs, K1, hcs, fun h => absurd h (by omega)⟩, by omega, by omega⟩
  clear K1 hcs
  have HA := Lib.hid ha
  have B1 := Lib.hid b1
  clear ha b1
  have MM := @run_makeMap Tryz.prog
  have b2 : Below w1.heap.size w1 (w1.alloc (.map #[] 0)) := Below.alloc (Below.refl _ _) (Nat.le_refl _) _
  have M2 : MapI (w1.alloc (.map #[] 0)) w1.heap.size (mapD false 0) := ⟨0, by decide, World.ownsMap_made _ _ _ _⟩
  have AK2 := AK.later b2
  have b3 := Below.alloc (Below.refl (w1.alloc (.map #[] 0)).heap.size (w1.alloc (.map #[] 0))) (Nat.le_refl _) (.cells #[.slice (some ⟨a, 0, none⟩) n n, .map (some w1.heap.size), .int .i64 0] 111)
  have K3 := Blk.new (w1.alloc (.map #[] 0)) 111 #[.slice (some ⟨a, 0, none⟩) n n, .map (some w1.heap.size), .int .i64 0]
  have M3 := M2.later b3
  have AK3 := AK2.later b3
  have hl2 : (w1.alloc (.map #[] 0)).heap.size = w1.heap.size + 1 := by simp
  have b13 := b2.up b3
  have d3 := K3.at3
  have hr3 := Below.refl ((w1.alloc (.map #[] 0)).alloc (.cells #[.slice (some ⟨a, 0, none⟩) n n, .map (some w1.heap.size), .int .i64 0] 111)).heap.size ((w1.alloc (.map #[] 0)).alloc (.cells #[.slice (some ⟨a, 0, none⟩) n n, .map (some w1.heap.size), .int .i64 0] 111))
  rw [hl2] at K3 d3
  have KK := Lib.hid K3
  have MK := Lib.hid M3
  have AA := Lib.hid AK3
  have BB := Lib.hid b13
  clear b2 M2 AK2 b3 K3 M3 AK3 b13 hl2 AK
  go_wp2_with fail
  go_loopw [17] (fun iv wr => ∃ k : Nat, iv = .int .i64 k ∧ k ≤ n ∧ Hid (ArrK wr a 3 n k (.int .i64 (-1))) ∧ Hid (Blk wr (w1.heap.size + 1) 111 #[.slice (some ⟨a, 0, none⟩) n n, .map (some w1.heap.size), .int .i64 0]) ∧ Hid (MapI wr w1.heap.size (mapD false 0)) ∧ Hid (Below w.heap.size w wr)) (fun iv _ => n - (intOf iv).toNat)
  case atStart =>
    refine ⟨0, rfl, by omega, AA, KK, MK, Lib.hid (B1.out.up BB.out (by rw [HA.out]; omega))⟩
  case round =>
    clear d3 hr3 AA KK MK BB MM
    obtain ⟨k, rfl, hk, hA, hK, hM, hB⟩ := hrel
    have dK := hK.out.at3
    have hr := Below.refl wr.heap.size wr
    by_cases hlt : k < n
    · have e1 : (k : Int) < (n : Int) := by omega
      obtain ⟨v, dA⟩ := hA.out.at_ hlt
      go_wp2_with fail
      go_round
      case rel =>
        refine ⟨k + 1, by go_num, by omega, Lib.hid hA.out.set, Lib.hid ?_, Lib.hid ?_, Lib.hid ?_⟩
        · exact hK.out.far (p := ⟨a, k, none⟩) (by simp only; omega) _
        · exact hM.out.set (p := ⟨a, k, none⟩) (by simp only; omega) _
        · exact Below.setCell hB.out (p := ⟨a, k, none⟩) (by simp only; rw [HA.out]; omega) _
      case measure => simp [intOf]; omega
    · have e1 : ¬ (k : Int) < (n : Int) := by omega
      go_wp2_with fail
      go_ret
      have hkn : k = n := by omega
      have hA1 := hA.out.full (by omega)
      exact ⟨⟨w1.heap.size + 1, a, w1.heap.size⟩, rfl, ⟨hK.out, hA1, hM.out, hn.2⟩, ⟨by simp only; omega⟩, fun i hi => by unfold SB.in_ at hi; simp only at hi; rw [HA.out]; omega, hB.out⟩

theorem slNext {w : World} {s : SB} {n nx : Nat} {on : Bool} (h : Slo w s n on nx) : Calls Tryz.prog 71 #[.pointer (some ⟨s.x, 0, none⟩)] w fun e w' => e = .returned (.int .i64 (nx : Nat)) ∧ w = w' := by
  have d := h.blk.at3
  have hr := Below.refl w.heap.size w
  go_enter Tryz.func71, Tryz.ntmps71
  go_wp2_with fail
  go_ret
  exact ⟨rfl, rfl⟩
theorem lit_inj {a c : Int} (h : (DataW.lit (Lit.int .i64 a) : DU) = .lit (.int .i64 c)) : a = c := by
  injection h with h
  injection h
theorem slSlot {w : World} {s : SB} {n nx : Nat} {on : Bool} (h : Slo w s n on nx) : Calls Tryz.prog 81 #[.pointer (some ⟨s.x, 0, none⟩), .int .i64 0] w fun e w' => e = .returned (.tuple #[.int .i64 0, .bool on]) ∧ w = w' := by
  have d := h.blk.at3
  have hr := Below.refl w.heap.size w
  obtain ⟨k, hk, hown⟩ := h.at_
  have hz := zero_int w
  go_enter Tryz.func81, Tryz.ntmps81
  go_wp2_with (at_lookup; refine wpList_lookup_own_ok_int _ rfl _ _ 57 rfl 3 3 .i64 int_key Tryz.underlying57 Tryz.underlying3 hz s.m k (mapD on 0) rfl hown _ (.int .i64 0) rfl key0 ?_; intro c hat hwc)
  have e0 : (mapD on 0).atKey (.int .i64 0) (.lit (.int .i64 0)) = .lit (.int .i64 0) := by cases on <;> rfl
  have hc : c = 0 := (lit_inj (e0.symm.trans hat)).symm
  subst hc
  rw [mapD_has]
  go_wp2_with fail
  go_ret2
  exact ⟨rfl, rfl⟩
set_option maxRecDepth 100000 in
set_option maxHeartbeats 4000000 in
theorem slFree {w : World} {s : SB} {n nx : Nat} (h : Slo w s n false nx) : Calls Tryz.prog 72 #[.pointer (some ⟨s.x, 0, none⟩)] w fun e w' => e = .returned (.int .i64 (n : Nat)) ∧ Below w.heap.size w w' := by
  have d := h.blk.at3
  have hn := h.nb
  have hr := Below.refl w.heap.size w
  have s1 : IntKind.i64.wrap ((n : Int) - 0) = (n : Int) := by rw [IntWalk.i64_in _ (by omega)]; omega
  have HL : ∀ w', Below w.heap.size w w' → (Builtin.len_ #[57] 3 #[.map (some s.m)]).run Tryz.prog w' = .ok (.int .i64 0) w' := fun w' hb => by
    have := (h.at_.later hb).len
    rw [mapD_size] at this
    simpa using this
  go_enter Tryz.func72, Tryz.ntmps72
  go_wp2_with fail
  refine wp_region_later w.heap.size (by kernel_rfl) (by kernel_rfl) ?_
  have hu : ∀ u : Later w.heap.size w, Below w.heap.size w u.world := Later.below
  repeat (go_big_quiet_step ((fail)))
  refine wpQuiet_nil ?_
  intro w2 b2
  clear hu
  go_wp2_with fail
  go_ret
  exact ⟨rfl, b2⟩

theorem slIndex {w : World} {a n : Nat} (h : Arr w a 3 n (.int .i64 (-1))) : Calls Tryz.prog 73 #[.slice (some ⟨a, 0, none⟩) n n, .int .i64 (-1)] w fun e w' => e = .returned (.int .i64 0) ∧ w = w' := by
  have d := h.at_
  have hn := h.2
  have e1 : (0 : Int) < (n : Int) := by omega
  have hr := Below.refl w.heap.size w
  go_enter Tryz.func73, Tryz.ntmps73
  go_wp2_with fail
  refine wp_loop_rounds 1 ?_
  rw [rounds_succ]
  go_wp2_with fail
  go_ret
  exact ⟨rfl, rfl⟩
set_option maxRecDepth 100000 in
set_option maxHeartbeats 4000000 in
theorem slOpen {w : World} {s : SB} {n nx : Nat} (h : Slo w s n false nx) (hs : s.ok) (h0 : nx = 0) : Calls Tryz.prog 47 #[.pointer (some ⟨s.x, 0, none⟩)] w fun e w' => e = .returned (.tuple #[.int .i64 0, .int .i64 0, .bool true]) ∧ Slo w' s n true 1 ∧ Foot s.in_ w w' := by
  subst h0
  have d := h.blk.at3
  have hn := h.nb
  have hn1 := h.who.2
  have hr := Below.refl w.heap.size w
  have e1 : ((0 : Int) == (n : Int)) = false := ne_b (by omega)
  have HL : ∀ w', Below w.heap.size w w' → (Builtin.len_ #[57] 3 #[.map (some s.m)]).run Tryz.prog w' = .ok (.int .i64 0) w' := fun w' hb => by
    have := (h.at_.later hb).len
    rw [mapD_size] at this
    simpa using this
  have HH := Lib.hid h
  have HS := Lib.hid hs
  clear h hs
  go_enter Tryz.func47, Tryz.ntmps47
  go_wp2_with fail
  refine wp_region_later w.heap.size (by kernel_rfl) (by kernel_rfl) ?_
  have hu : ∀ u : Later w.heap.size w, Below w.heap.size w u.world := Later.below
  repeat (go_big_quiet_step ((fail)))
  refine wpQuiet_nil ?_
  intro w2 b2
  have h2 := HH.out.later b2
  clear hu d hr HL
  have d := h2.blk.at3
  have hr := Below.refl w2.heap.size w2
  have FI := Lib.hid (slIndex h2.who)
  go_wp2_with fail
  refine FI.out.mono ?_; rintro e w1 ⟨rfl, rfl⟩
  clear FI
  have S2 : Slo ((w2.setCell ⟨s.x, 2, none⟩ (.int .i64 1)).setCell ⟨s.who, 0, none⟩ (.int .i64 0)) s n true 1 → True := fun _ => trivial
  obtain ⟨d1, d2, d3⟩ := HS.out.d
  have da := h2.who.at_
  have kW : Arr (w2.setCell ⟨s.x, 2, none⟩ (.int .i64 1)) s.who 3 n (.int .i64 (-1)) := h2.who.far (p := ⟨s.x, 2, none⟩) (Ne.symm d1) _
  have kX : Blk (w2.setCell ⟨s.x, 2, none⟩ (.int .i64 1)) s.x 111 #[.slice (some ⟨s.who, 0, none⟩) n n, .map (some s.m), .int .i64 (1 : Nat)] := by
    have := h2.blk.set_ 2 (.int .i64 1)
    simpa using this
  have kM := h2.at_.set (p := ⟨s.x, 2, none⟩) (Ne.symm d2) (.int .i64 1)
  have kW2 := kW.set (.int .i64 0)
  have kX2 := kX.far (p := ⟨s.who, 0, none⟩) d1 (.int .i64 0)
  have kM2 := kM.set (p := ⟨s.who, 0, none⟩) (Ne.symm d3) (.int .i64 0)
  obtain ⟨k, hk, hown⟩ := kM2
  have F2 : Foot s.in_ w ((w2.setCell ⟨s.x, 2, none⟩ (.int .i64 1)).setCell ⟨s.who, 0, none⟩ (.int .i64 0)) := Foot.set (p := ⟨s.who, 0, none⟩) (Foot.set (p := ⟨s.x, 2, none⟩) (Foot.later b2) (.inl (.inl rfl)) _) (.inl (.inr (.inl rfl))) _
  clear S2
  go_wp2_with (at_mapUpdate; refine wpList_mapUpdate_in _ rfl _ _ _ 57 rfl 3 3 int_key Tryz.underlying57 (plainElem Tryz.prog 3) s.m k (mapD false 0) rfl hown (by unfold maxLen; omega) _ _ (.int .i64 0) rfl rfl key0 (.lit (.int .i64 0)) [] (plainElem_int Tryz.underlying3 rfl) ?_; intro w3 hown3 ht3)
  have F3 := foot_map ht3
  rw [mapD_put] at hown3
  go_wp2_with fail
  go_ret3
  refine ⟨rfl, ⟨kX2.foot F3 d2, kW2.foot F3 d3, MapI.of hown3 (mapD_le _ _), hn⟩, F2.trans (F3.mono fun i hi => .inr (.inr hi))⟩
theorem slClose {w : World} {s : SB} {n nx : Nat} (h : Slo w s n true nx) (hs : s.ok) : Calls Tryz.prog 105 #[.pointer (some ⟨s.x, 0, none⟩), .int .i64 0] w fun e w' => e = .returned (.bool true) ∧ Slo w' s n false nx ∧ Foot s.in_ w w' := by
  have d := h.blk.at3
  have da := h.who.at_
  have hn1 := h.who.2
  have e1 : (0 : Int) < (n : Int) := by omega
  have hr := Below.refl w.heap.size w
  have FS := Lib.hid (slSlot h)
  obtain ⟨d1, d2, d3⟩ := hs.d
  have kX := h.blk.far (p := ⟨s.who, 0, none⟩) d1 (.int .i64 (-1))
  have kW := h.who.set (.int .i64 (-1))
  have kM := h.at_.set (p := ⟨s.who, 0, none⟩) (Ne.symm d3) (.int .i64 (-1))
  obtain ⟨k, hk, hown⟩ := kM
  have F1 : Foot s.in_ w (w.setCell ⟨s.who, 0, none⟩ (.int .i64 (-1))) := Foot.set (p := ⟨s.who, 0, none⟩) (Foot.refl _ _) (.inl (.inr (.inl rfl))) _
  have hn := h.nb
  clear h
  go_enter Tryz.func105, Tryz.ntmps105
  go_wp2_with fail
  refine FS.out.mono ?_; rintro e w1 ⟨rfl, rfl⟩
  clear FS
  go_wp2_with (at_delete; refine wpList_delete_own _ rfl _ _ 57 3 rfl 3 int_key Tryz.underlying57 (plainElem Tryz.prog 3) s.m k (mapD true 0) rfl hown _ (.int .i64 0) rfl key0 ?_; intro w3 hown3 ht3)
  have F3 := foot_map ht3
  rw [mapD_del] at hown3
  go_wp2_with fail
  go_ret
  exact ⟨rfl, ⟨kX.foot F3 d2, kW.foot F3 d3, MapI.of hown3 (mapD_le _ _), hn⟩, F1.trans (F3.mono fun i hi => .inr (.inr hi))⟩
end Go.Proofs.YtbhgmccaecmpjaaGreat
