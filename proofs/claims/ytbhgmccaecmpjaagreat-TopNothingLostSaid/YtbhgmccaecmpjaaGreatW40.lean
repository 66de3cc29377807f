/-
  engine.each of nothing.
  Conditions: none.
-/
import Derived.Test.YtbhgmccaecmpjaaGreatW39
namespace Go.Proofs.YtbhgmccaecmpjaaGreat
set_option linter.unusedVariables false
set_option linter.unusedSimpArgs false
open Go.RowKit

theorem eachI0 (v : Value) (cap : Nat) (w : World) : Calls Tryz.prog 27 #[.slice none 0 cap, v] w fun e w' => e = .returned (.tuple #[]) ∧ w = w' := by
  go_enter Tryz.func27, Tryz.ntmps27
  go_wp2_with fail
  refine wp_loop_rounds 1 ?_
  rw [rounds_succ]
  go_wp2_with fail
  go_end0
  exact ⟨rfl, rfl⟩
theorem eachO0 (v : Value) (cap : Nat) (w : World) : Calls Tryz.prog 29 #[.slice none 0 cap, v] w fun e w' => e = .returned (.tuple #[]) ∧ w = w' := by
  go_enter Tryz.func29, Tryz.ntmps29
  go_wp2_with fail
  refine wp_loop_rounds 1 ?_
  rw [rounds_succ]
  go_wp2_with fail
  go_end0
  exact ⟨rfl, rfl⟩
theorem eachR0 (v : Value) (cap : Nat) (w : World) : Calls Tryz.prog 32 #[.slice none 0 cap, v] w fun e w' => e = .returned (.tuple #[]) ∧ w = w' := by
  go_enter Tryz.func32, Tryz.ntmps32
  go_wp2_with fail
  refine wp_loop_rounds 1 ?_
  rw [rounds_succ]
  go_wp2_with fail
  go_end0
  exact ⟨rfl, rfl⟩
theorem eachE0 (v : Value) (cap : Nat) (w : World) : Calls Tryz.prog 34 #[.slice none 0 cap, v] w fun e w' => e = .returned (.tuple #[]) ∧ w = w' := by
  go_enter Tryz.func34, Tryz.ntmps34
  go_wp2_with fail
  refine wp_loop_rounds 1 ?_
  rw [rounds_succ]
  go_wp2_with fail
  go_end0
  exact ⟨rfl, rfl⟩
end Go.Proofs.YtbhgmccaecmpjaaGreat

namespace Go.Proofs.YtbhgmccaecmpjaaGreat
set_option linter.unusedVariables false
set_option linter.unusedSimpArgs false
open Go.RowKit

set_option maxRecDepth 100000 in
set_option maxHeartbeats 4000000 in
theorem eachR1 (g cap x : Nat) (a b : Bool) (k : Int) (w : World) {P : World → Prop} (hg : ∀ w', Below w.heap.size w w' → w'.cell? ⟨g, 0, none⟩ = some (.int .i64 0) ∧ w'.cell? ⟨g, 1, none⟩ = some (.bool a) ∧ w'.cell? ⟨g, 2, none⟩ = some (.bool b) ∧ w'.cell? ⟨g, 3, none⟩ = some (.int .i64 k))
    (hc : ∀ w', Below w.heap.size w w' → Calls Tryz.prog 33 #[.pointer (some ⟨x, 0, none⟩), .agg #[.int .i64 0, .bool a, .bool b, .int .i64 k]] w' fun e w'' => e = .returned (.tuple #[]) ∧ P w'') :
    Calls Tryz.prog 32 #[.slice (some ⟨g, 0, none⟩) 1 cap, .func (.func 33) #[.pointer (some ⟨x, 0, none⟩)] #[]] w fun e w' => e = .returned (.tuple #[]) ∧ P w' := by
  have hr := Below.refl w.heap.size w
  have HC := Lib.hid hc
  clear hc
  go_enter Tryz.func32, Tryz.ntmps32
  go_wp2_with fail
  refine wp_loop_rounds 2 ?_
  rw [rounds_succ]
  go_wp2_with fail
  refine (HC.out _ (by (repeat' (first | exact Below.refl _ _ | assumption | apply Below.drew | apply below_drewN | refine Below.setCell ?_ (by first | assumption | (simp; done) | (simp <;> omega)) _ | refine Below.alloc ?_ (by first | exact Nat.le_refl _ | assumption | (simp; done) | (simp <;> omega)) _)))).mono ?_; rintro e w2 ⟨rfl, hp⟩
  clear hg hr
  go_wp2_with fail
  rw [rounds_succ]
  go_wp2_with fail
  go_end0
  exact ⟨rfl, hp⟩
set_option maxRecDepth 100000 in
set_option maxHeartbeats 4000000 in
theorem eachI1 (g cap x : Nat)  (w : World) {P : World → Prop} (hg : ∀ w', Below w.heap.size w w' → w'.cell? ⟨g, 0, none⟩ = some (.int .i64 0))
    (hc : ∀ w', Below w.heap.size w w' → Calls Tryz.prog 28 #[.pointer (some ⟨x, 0, none⟩), .int .i64 0] w' fun e w'' => e = .returned (.tuple #[]) ∧ P w'') :
    Calls Tryz.prog 27 #[.slice (some ⟨g, 0, none⟩) 1 cap, .func (.func 28) #[.pointer (some ⟨x, 0, none⟩)] #[]] w fun e w' => e = .returned (.tuple #[]) ∧ P w' := by
  have hr := Below.refl w.heap.size w
  have HC := Lib.hid hc
  clear hc
  go_enter Tryz.func27, Tryz.ntmps27
  go_wp2_with fail
  refine wp_loop_rounds 2 ?_
  rw [rounds_succ]
  go_wp2_with fail
  refine (HC.out _ (by (repeat' (first | exact Below.refl _ _ | assumption | apply Below.drew | apply below_drewN | refine Below.setCell ?_ (by first | assumption | (simp; done) | (simp <;> omega)) _ | refine Below.alloc ?_ (by first | exact Nat.le_refl _ | assumption | (simp; done) | (simp <;> omega)) _)))).mono ?_; rintro e w2 ⟨rfl, hp⟩
  clear hg hr
  go_wp2_with fail
  rw [rounds_succ]
  go_wp2_with fail
  go_end0
  exact ⟨rfl, hp⟩
set_option maxRecDepth 100000 in
set_option maxHeartbeats 4000000 in
theorem eachO1 (g cap x : Nat) (u : ByteArray) (w : World) {P : World → Prop} (hg : ∀ w', Below w.heap.size w w' → w'.cell? ⟨g, 0, none⟩ = some (.int .i64 0) ∧ w'.cell? ⟨g, 1, none⟩ = some (.string u) ∧ w'.cell? ⟨g, 2, none⟩ = some (.bool false))
    (hc : ∀ w', Below w.heap.size w w' → Calls Tryz.prog 30 #[.pointer (some ⟨x, 0, none⟩), .agg #[.int .i64 0, .string u, .bool false]] w' fun e w'' => e = .returned (.tuple #[]) ∧ P w'') :
    Calls Tryz.prog 29 #[.slice (some ⟨g, 0, none⟩) 1 cap, .func (.func 30) #[.pointer (some ⟨x, 0, none⟩)] #[]] w fun e w' => e = .returned (.tuple #[]) ∧ P w' := by
  have hr := Below.refl w.heap.size w
  have HC := Lib.hid hc
  clear hc
  go_enter Tryz.func29, Tryz.ntmps29
  go_wp2_with fail
  refine wp_loop_rounds 2 ?_
  rw [rounds_succ]
  go_wp2_with fail
  refine (HC.out _ (by (repeat' (first | exact Below.refl _ _ | assumption | apply Below.drew | apply below_drewN | refine Below.setCell ?_ (by first | assumption | (simp; done) | (simp <;> omega)) _ | refine Below.alloc ?_ (by first | exact Nat.le_refl _ | assumption | (simp; done) | (simp <;> omega)) _)))).mono ?_; rintro e w2 ⟨rfl, hp⟩
  clear hg hr
  go_wp2_with fail
  rw [rounds_succ]
  go_wp2_with fail
  go_end0
  exact ⟨rfl, hp⟩
set_option maxRecDepth 100000 in
set_option maxHeartbeats 4000000 in
theorem eachE1 (g cap x : Nat) (u : Int) (w : World) {P : World → Prop} (hg : ∀ w', Below w.heap.size w w' → w'.cell? ⟨g, 0, none⟩ = some (.int .i64 u) ∧ w'.cell? ⟨g, 1, none⟩ = some (.int .i64 0))
    (hc : ∀ w', Below w.heap.size w w' → Calls Tryz.prog 36 #[.pointer (some ⟨x, 0, none⟩), .agg #[.int .i64 u, .int .i64 0]] w' fun e w'' => e = .returned (.tuple #[]) ∧ P w'') :
    Calls Tryz.prog 34 #[.slice (some ⟨g, 0, none⟩) 1 cap, .func (.func 36) #[.pointer (some ⟨x, 0, none⟩)] #[]] w fun e w' => e = .returned (.tuple #[]) ∧ P w' := by
  have hr := Below.refl w.heap.size w
  have HC := Lib.hid hc
  clear hc
  go_enter Tryz.func34, Tryz.ntmps34
  go_wp2_with fail
  refine wp_loop_rounds 2 ?_
  rw [rounds_succ]
  go_wp2_with fail
  refine (HC.out _ (by (repeat' (first | exact Below.refl _ _ | assumption | apply Below.drew | apply below_drewN | refine Below.setCell ?_ (by first | assumption | (simp; done) | (simp <;> omega)) _ | refine Below.alloc ?_ (by first | exact Nat.le_refl _ | assumption | (simp; done) | (simp <;> omega)) _)))).mono ?_; rintro e w2 ⟨rfl, hp⟩
  clear hg hr
  go_wp2_with fail
  rw [rounds_succ]
  go_wp2_with fail
  go_end0
  exact ⟨rfl, hp⟩
end Go.Proofs.YtbhgmccaecmpjaaGreat

namespace Go.Proofs.YtbhgmccaecmpjaaGreat
set_option linter.unusedVariables false
set_option linter.unusedSimpArgs false
open Go.RowKit

/-- What a round asks: ticks, whether script 0 is opened, what is offered to 0, a report of 0 (to read; whether to write, and how much is taken). -/
structure RdT where
  tk : Int
  op : Bool
  of : Option ByteArray
  rp : Option (Bool × Int)
def begE (E : ET) (tk : Int) : ET := { E with clock := E.clock + tk, rounds := E.rounds + 1, out := [⟨1, 0, 0, E.clock + tk, ⟨#[]⟩, 0, 0, 0, 0, 0, 0, 0⟩] }
def opnE (c : ScT) (E : ET) : Bool → ET
  | true => openE c E
  | false => E
def offE (E : ET) : Option ByteArray → ET
  | none => E
  | some u => { E with wb := E.wb ++ u.data.toList, snt := E.snt + u.size }
def RepTo (c : ScT) : Option (Bool × Int) → ET → ET → Prop
  | none, E, E' => E' = E
  | some (false, _), E, E' => (E.d = none ∧ E' = E) ∨ ∃ t, E.d = some t ∧ E' = reportT c E t
  | some (true, k), E, E' => ∃ t tr, E.d = some t ∧ E' = reportW c E t k tr
def wakeE (c : ScT) (E : ET) : ET := match E.tm, E.d with
  | some u, some t => if dueB u E.clock = true then settleT c { E with tm := none } t else E
  | _, _ => E
def TurnsTo (c : ScT) : Nat → ET → ET → Prop
  | 0, E, E' => E' = E
  | n + 1, E, E' => (E.waits = true ∧ ∃ E1, TurnTo c (tuB c E) E1 ∧ TurnsTo c n E1 E') ∨ (E.waits = false ∧ E' = E)
/-- One goes on by himself: no deadline ends him, nor is one below 0. -/
def EasyD (E : ET) (t : DT) : Prop := t.at_ ≤ 2 ∧ t.now ≤ E.clock ∧ overN t.li t.cu E.clock = 0 ∧ (nextT t = nev ∨ 0 ≤ nextT t)
def RepOk (c : ScT) (E : ET) (b : Bool) : Prop := (E.d = none ∧ b = false) ∨ ∃ t, E.d = some t ∧ EasyD E t ∧ E.wb.length ≤ 500000 ∧ (0 ≤ E.rd ∧ E.rd ≤ 500000) ∧ E.out.length ≤ 900000 ∧ (b = true → readK c E t ≠ 0)
/-- What holds ahead of each turn, of which so many may come. -/
def JOk (c : ScT) (J : Nat → ET → Prop) : Prop := ∀ m E, J (m + 1) E → E.turn = false ∧ (E.waits = true → (∃ t, E.d = some t) ∧ E.k ≤ 1000000 ∧ (∃ I, TurnI c I ∧ I (tuB c E)) ∧ ∀ E1, TurnTo c (tuB c E) E1 → J m E1)
structure RndOk (c : ScT) (R : RdT) (E : ET) (J : Nat → ET → Prop) : Prop where
  tk : 0 ≤ R.tk ∧ 0 ≤ E.clock ∧ E.clock + R.tk ≤ 1000000000000
  rounds : 0 ≤ E.rounds ∧ E.rounds ≤ 1000000
  op : R.op = true → E.d = none ∧ PrFit c.nm c.dl c.jm c.o0 c.o1 ∧ E.nx = 0 ∧ ((∃ n, c.o0 = .pause n) ∨ ∃ u, c.o0 = .send u) ∧ EasyD (begE E R.tk) (comeT c (newT c (E.clock + R.tk)) 0)
  of : ∀ u, R.of = some u → (opnE c (begE E R.tk) R.op).d.isSome = true ∧ u.size ≤ 4096 ∧ (opnE c (begE E R.tk) R.op).wb.length ≤ 500000 ∧ 0 ≤ (opnE c (begE E R.tk) R.op).snt ∧ (opnE c (begE E R.tk) R.op).snt ≤ 500000
  rp : ∀ b k, R.rp = some (b, k) → RepOk c (offE (opnE c (begE E R.tk) R.op) R.of) b
  wk : ∀ E4, RepTo c R.rp (offE (opnE c (begE E R.tk) R.op) R.of) E4 → ((∀ u, E4.tm = some u → ∃ t, E4.d = some t ∧ EasyD E4 t) ∧ J c.v (wakeE c E4))
/-- A round comes to this. -/
def RoundTo (c : ScT) (R : RdT) (E E' : ET) : Prop := ∃ E4, RepTo c R.rp (offE (opnE c (begE E R.tk) R.op) R.of) E4 ∧ TurnsTo c c.v (wakeE c E4) E'
end Go.Proofs.YtbhgmccaecmpjaaGreat

namespace Go.Proofs.YtbhgmccaecmpjaaGreat
set_option linter.unusedVariables false
set_option linter.unusedSimpArgs false
open Go.RowKit

/-- The law's script. -/
structure NL (c : ScT) (n : Int) : Prop where
  ok : c.ok
  dl : c.dl = nev
  o0 : c.o0 = .pause n
  o1 : c.o1 = .expect nev none
  n : 0 ≤ n ∧ n ≤ 8
/-- The bytes that were read, and how one stands, as events tell. -/
def rdOf (l : List EvT) : List UInt8 := l.flatMap fun x => if x.k = 4 then x.b.data.toList else []
def stF (s : Int) (l : List EvT) : Int := l.foldl (fun s x => if x.k = 8 then x.s5 else s) s
theorem rdOf_snoc (l : List EvT) (x : EvT) : rdOf (l ++ [x]) = rdOf l ++ (if x.k = 4 then x.b.data.toList else []) := by unfold rdOf; simp
theorem rdOf_app (l m : List EvT) : rdOf (l ++ m) = rdOf l ++ rdOf m := by unfold rdOf; simp
theorem stF_snoc (s : Int) (l : List EvT) (x : EvT) : stF s (l ++ [x]) = if x.k = 8 then x.s5 else stF s l := by unfold stF; simp
theorem stF_app (s : Int) (l m : List EvT) : stF s (l ++ m) = stF (stF s l) m := by unfold stF; simp
theorem look_no (win : Nat) : ∀ (s l : List UInt8) (k : Nat), l.length ≤ win → lookT win l .no s k = if l.length + s.length ≤ win then ⟨.look, k + s.length, 0, l ++ s, .no, []⟩ else ⟨.full, k + (win - l.length), 0, (l ++ s).take win, .no, s.drop (win - l.length)⟩
  | [], l, k, h => by
    unfold lookT
    rw [if_pos (by simpa using h)]
    simp
  | c :: s, l, k, h => by
    unfold lookT
    by_cases he : l.length = win
    · rw [if_pos he, if_neg (by simp only [List.length_cons]; omega)]
      have : win - l.length = 0 := by omega
      rw [this]
      have h2 : (l ++ c :: s).take win = l := by rw [← he]; simp
      rw [h2]
      rfl
    · rw [if_neg he]
      have hf : (Pat.no.feed c.toNat).2 = false := rfl
      rw [if_neg (by rw [hf]; decide)]
      have := look_no win s (l ++ [c]) (k + 1) (by simp only [List.length_append, List.length_cons, List.length_nil]; omega)
      show lookT win (l ++ [c]) .no s (k + 1) = _
      rw [this]
      simp only [List.length_append, List.length_cons, List.length_nil, List.append_assoc, List.cons_append, List.nil_append]
      by_cases h3 : l.length + (0 + 1) + s.length ≤ win
      · rw [if_pos h3, if_pos (by omega)]
        congr 1; omega
      · rw [if_neg h3, if_neg (by omega)]
        obtain ⟨z, hz⟩ : ∃ z, win - l.length = z + 1 := ⟨win - l.length - 1, by omega⟩
        have e1 : win - (l.length + (0 + 1)) = z := by omega
        rw [hz, e1]
        congr 1; omega
def GoodEv (v : EvT) : Prop := v.i = 0 ∧ v.k ≠ 5 ∧ v.k ≠ 7 ∧ v.k ≠ 9 ∧ v.b.size ≤ 1000 ∧ (Lit.int IntKind.i64 v.s5).wf = true
/-- A dialogue of the law that runs. -/
structure Run (c : ScT) (n : Int) (b : List UInt8) (P0 : List EvT) (R0 : List UInt8) (S0 : Int) (E : ET) (t : DT) : Prop where
  d : E.d = some t
  ju : t.ju = 0
  li : t.li = nev
  cu : t.cu = nev
  lv : t.lv = true
  now : 0 ≤ t.now ∧ t.now ≤ E.clock
  ck : E.clock ≤ 1000
  ph : (t.at_ = 0 ∧ t.un = n ∧ t.win = []) ∨ (t.at_ = 1 ∧ t.un = nev ∧ t.pat = some .no)
  rd : R0 ++ rdOf E.out = t.win ++ t.inb
  all : t.win ++ t.inb ++ E.wb = b
  st : stF S0 E.out = 0
  wl : t.win.length ≤ c.n
  rdw : E.rd + (E.wb.length : Nat) = (b.length : Nat)
  ev : ∀ v ∈ E.out, GoodEv v
  pre : ∃ l, E.out = P0 ++ l
/-- .. that has ended, its window being full. -/
structure Ovf (c : ScT) (b : List UInt8) (P0 : List EvT) (R0 : List UInt8) (S0 : Int) (E : ET) : Prop where
  d : E.d = none
  st : stF S0 E.out = 4
  rd : R0 ++ rdOf E.out ++ E.wb = b
  long : c.n < (R0 ++ rdOf E.out).length
  w : E.waits = false ∧ E.turn = false
  tm : E.tm = none
  ev : ∀ v ∈ E.out, GoodEv v
  pre : ∃ l, E.out = P0 ++ l
section
variable {c : ScT} {n : Int} {b R0 : List UInt8} {P0 : List EvT} {S0 : Int} {E : ET} {t : DT}
theorem nl_price (h : NL c n) (t : DT) (hp : t.at_ = 0 ∨ t.at_ = 1) : priceT c t = if t.at_ = 0 then 1 else 1 + min (t.inb.length : Int) c.n := by
  have hg := h.ok.good
  have hn := h.ok.n
  unfold priceT priceS kindT opAt
  rcases hp with e | e
  · rw [if_pos hg, e, h.o0]
    simp [OpT.kind]
  · rw [if_pos hg, e, h.o1]
    simp [OpT.kind, clampT]
    omega
theorem Run.easy (h : Run c n b P0 R0 S0 E t) (hc : NL c n) : EasyD E t := by
  have hn := hc.n
  have hu : (t.un = n ∧ t.at_ = 0) ∨ (t.un = nev ∧ t.at_ = 1) := by
    rcases h.ph with ⟨h1, h2, _⟩ | ⟨h1, h2, _⟩
    · exact .inl ⟨h2, h1⟩
    · exact .inr ⟨h2, h1⟩
  refine ⟨by rcases hu with h | h <;> omega, h.now.2, ?_, ?_⟩
  · rw [h.li, h.cu]
    unfold overN
    rw [if_pos (Int.le_refl _), if_neg (by unfold dueB; simp)]
  · rw [show nextT t = leastT [t.un, t.li, t.cu] from rfl, h.li, h.cu]
    rcases hu with ⟨e, _⟩ | ⟨e, _⟩ <;> rw [e] <;> simp only [leastT, List.foldl_cons, List.foldl_nil, ownT, nev] <;> split <;> omega
theorem Run.next (h : Run c n b P0 R0 S0 E t) (hc : NL c n) : nextT t = t.un := by
  have hn := hc.n
  rw [show nextT t = leastT [t.un, t.li, t.cu] from rfl, h.li, h.cu]
  rcases h.ph with ⟨_, e, _⟩ | ⟨_, e, _⟩ <;> rw [e]
  · have h1 : ownT n = n := by unfold ownT; rw [if_neg (by omega)]
    have h2 : ownT nev = nev := rfl
    simp only [leastT, List.foldl_cons, List.foldl_nil, h1, h2]
    have h3 : n < nev := by unfold nev; omega
    simp only [h3, if_true]
    rw [if_neg (by omega), if_neg (by omega)]
  · rfl
theorem Run.okd (h : Run c n b P0 R0 S0 E t) (hc : NL c n) : OkD c E.clock t := by
  have he := h.easy hc
  obtain ⟨h1, h2, h3, h4⟩ := he
  have hk := h.ck
  have hn := h.now
  refine ⟨⟨h1, fun e => ?_, fun e => ?_, ?_⟩, ⟨h3, fun e => ?_⟩, h2, h4⟩
  · rcases h.ph with ⟨_, _, e2⟩ | ⟨e1, _⟩
    · exact ⟨e2, h.lv, h.ju⟩
    · exact absurd (e.symm.trans e1) (by decide)
  · rcases h.ph with ⟨e1, _⟩ | ⟨_, _, e2⟩
    · exact absurd (e1.symm.trans e) (by decide)
    · exact ⟨h.lv, ⟨_, e2, fun _ => rfl⟩, h.ju⟩
  · show 0 ≤ E.clock ∧ E.clock ≤ 9223372036854775807
    omega
  · show dueB t.un E.clock = false
    rcases h.ph with ⟨e1, _⟩ | ⟨_, e2, _⟩
    · exact absurd (e1.symm.trans e) (by decide)
    · rw [e2]; unfold dueB; simp
theorem Run.ready (h : Run c n b P0 R0 S0 E t) (hc : NL c n) : readyT c t E.clock = if t.at_ = 0 then dueB n E.clock else !t.inb.isEmpty := by
  unfold readyT opAt
  rcases h.ph with ⟨e1, e2, _⟩ | ⟨e1, e2, _⟩
  · rw [if_pos e1, if_pos e1, hc.o0]
    simp only [e2]
  · have : ¬ t.at_ = 0 := by omega
    rw [if_neg this, if_neg this, if_pos e1, hc.o1]
    simp only [e2]
    have : dueB nev E.clock = false := by unfold dueB; simp
    rw [this, Bool.or_false]
theorem good_step (h : ∀ v ∈ E.out, GoodEv v) {r : SRes} {p : Int} (hr : r.out.st = 0 ∨ r.out.st = 4 ∨ r.out.st = 1) : ∀ v ∈ E.out ++ [stepEv { E with p := p } t r], GoodEv v := by
  intro v hv
  rcases List.mem_append.1 hv with hv | hv
  · exact h v hv
  · simp only [List.mem_cons, List.not_mem_nil, or_false] at hv
    subst hv
    refine ⟨rfl, ?_, ?_, ?_, Nat.zero_le _, ?_⟩
    · show (8 : Int) ≠ 5; decide
    · show (8 : Int) ≠ 7; decide
    · show (8 : Int) ≠ 9; decide
    · show (Lit.int IntKind.i64 r.out.st).wf = true
      rcases hr with e | e | e <;> rw [e] <;> rfl
theorem pre_snoc {P l : List EvT} (h : ∃ m, l = P ++ m) (v : EvT) : ∃ m, l ++ [v] = P ++ m := by
  obtain ⟨m, rfl⟩ := h
  exact ⟨m ++ [v], by rw [List.append_assoc]⟩
/-- A step of the pause. -/
theorem nl_woke (h : Run c n b P0 R0 S0 E t) (hc : NL c n) (ha : t.at_ = 0) : dstepT c { t with now := E.clock } = ⟨8, 0, 0, .run { t with now := E.clock, at_ := 1, un := nev, pat := some .no }⟩ := by
  unfold dstepT opAt
  rw [if_pos (by exact ha), hc.o0]
  simp only
  unfold comeT
  rw [if_neg (by decide), if_pos rfl, hc.o1]
  rfl
/-- A step that looks. -/
theorem nl_look (h : Run c n b P0 R0 S0 E t) (hc : NL c n) (ha : t.at_ = 1) : dstepT c { t with now := E.clock } = if t.win.length + t.inb.length ≤ c.n then ⟨1, 0, (t.inb.length : Nat), .run { t with now := E.clock, inb := [], win := t.win ++ t.inb, pat := some .no, lv := true }⟩ else ⟨13, 0, ((c.n - t.win.length : Nat) : Int), .fin 4⟩ := by
  have hp : t.pat = some .no := by
    rcases h.ph with ⟨e1, _⟩ | ⟨_, _, e2⟩
    · omega
    · exact e2
  unfold dstepT opAt
  rw [if_neg (by show ¬ t.at_ = 0; omega), if_pos (by exact ha), hc.o1]
  simp only [hp, Option.getD_some]
  rw [look_no c.n t.inb t.win 0 h.wl]
  by_cases hl : t.win.length + t.inb.length ≤ c.n
  · rw [if_pos hl, if_pos hl]
    simp [LkT.isHit, LkT.isFull]
  · rw [if_neg hl, if_neg hl]
    simp [LkT.isHit, LkT.isFull]
theorem nl_runWoke (h : Run c n b P0 R0 S0 E t) (hc : NL c n) (ha : t.at_ = 0) (p : Int) : Run c n b P0 R0 S0 (stepE { E with p := p } t (dstepT c { t with now := E.clock })) { t with now := E.clock, at_ := 1, un := nev, pat := some .no } := by
  rw [nl_woke h hc ha]
  have hn := h.now
  refine ⟨rfl, h.ju, h.li, h.cu, h.lv, ⟨by show 0 ≤ E.clock; omega, by show E.clock ≤ E.clock; omega⟩, h.ck, .inr ⟨rfl, rfl, rfl⟩, ?_, h.all, ?_, h.wl, h.rdw, good_step h.ev (.inl rfl), pre_snoc h.pre _⟩
  · show R0 ++ rdOf (E.out ++ [_]) = _
    rw [rdOf_snoc, if_neg (by show ¬ (8 : Int) = 4; decide), List.append_nil]
    exact h.rd
  · show stF S0 (E.out ++ [_]) = 0
    rw [stF_snoc]
    rfl
theorem nl_runLook (h : Run c n b P0 R0 S0 E t) (hc : NL c n) (ha : t.at_ = 1) (hl : t.win.length + t.inb.length ≤ c.n) (p : Int) : Run c n b P0 R0 S0 (stepE { E with p := p } t (dstepT c { t with now := E.clock })) { t with now := E.clock, inb := [], win := t.win ++ t.inb, pat := some .no, lv := true } := by
  rw [nl_look h hc ha, if_pos hl]
  have hn := h.now
  have hu : t.un = nev := by
    rcases h.ph with ⟨e1, _⟩ | ⟨_, e2, _⟩
    · omega
    · exact e2
  refine ⟨rfl, h.ju, h.li, h.cu, rfl, ⟨by show 0 ≤ E.clock; omega, by show E.clock ≤ E.clock; omega⟩, h.ck, .inr ⟨ha, hu, rfl⟩, ?_, ?_, ?_, by simpa using hl, h.rdw, good_step h.ev (.inl rfl), pre_snoc h.pre _⟩
  · show R0 ++ rdOf (E.out ++ [_]) = (t.win ++ t.inb) ++ []
    rw [rdOf_snoc, if_neg (by show ¬ (8 : Int) = 4; decide), List.append_nil, List.append_nil]
    exact h.rd
  · show (t.win ++ t.inb) ++ [] ++ E.wb = b
    rw [List.append_nil]
    exact h.all
  · show stF S0 (E.out ++ [_]) = 0
    rw [stF_snoc]
    rfl
theorem nl_over (h : Run c n b P0 R0 S0 E t) (hc : NL c n) (ha : t.at_ = 1) (hl : ¬ t.win.length + t.inb.length ≤ c.n) (p : Int) : Ovf c b P0 R0 S0 (stepE { E with p := p } t (dstepT c { t with now := E.clock })) := by
  rw [nl_look h hc ha, if_neg hl]
  have e : R0 ++ rdOf (E.out ++ [stepEv { E with p := p } t ⟨13, 0, ((c.n - t.win.length : Nat) : Int), .fin 4⟩]) = R0 ++ rdOf E.out := by
    rw [rdOf_snoc, if_neg (by show ¬ (8 : Int) = 4; decide), List.append_nil]
  refine ⟨rfl, ?_, ?_, ?_, ⟨rfl, rfl⟩, rfl, good_step h.ev (.inr (.inl rfl)), pre_snoc h.pre _⟩
  · show stF S0 (E.out ++ [_]) = 4
    rw [stF_snoc]
    rfl
  · show R0 ++ rdOf (E.out ++ [_]) ++ E.wb = b
    rw [e, h.rd]
    exact h.all
  · show c.n < (R0 ++ rdOf (E.out ++ [_])).length
    rw [e, h.rd, List.length_append]
    omega
end
end Go.Proofs.YtbhgmccaecmpjaaGreat
