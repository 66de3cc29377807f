/-
  What the statements QuoteBack, QuoteReads, QuoteWhole and QuoteStops compute: each returns true, whatever the texts; they make new memory alone.
  Conditions: none.
-/
import Derived.Test.YtnaacbibciplfaaQuoteRef2
namespace Go.Proofs.Ytnaacbibciplfaa
open Go.RowKit

theorem bytes_back (s : ByteArray) : (⟨s.data.toList.toArray⟩ : ByteArray) = s := by
  apply ByteArray.ext; simp

theorem rdL_len (t : List UInt8) : ∀ l, (rdL t).1 = some l → l.length ≤ t.length := by
  refine rd_ind (Q := fun t => ∀ l, (rdL t).1 = some l → l.length ≤ t.length) ?_ ?_ ?_ t.length t (Nat.le_refl _)
  · intro t h l hl
    rw [rdL_end h] at hl
    cases hl
    exact Nat.zero_le _
  · intro t h h1 l hl
    rw [rdL_stop h h1] at hl
    cases hl
  · intro t b h h1 ih l hl
    rw [rdL_go h h1] at hl
    obtain ⟨l', hl', rfl⟩ := Option.map_eq_some_iff.1 hl
    have h2 := ih l' hl'
    have h3 := oneL_some h1
    have h4 := (oneL_le t).1
    rw [List.length_drop] at h2
    rw [List.length_cons]
    omega
theorem readT_len {s l : List UInt8} (h : (readT s).1 = some l) : l.length ≤ s.length := by
  match s with
  | [] => simp [readT] at h
  | c :: t =>
    simp only [readT] at h
    split at h
    · have := rdL_len t l h
      rw [List.length_cons]; omega
    · cases h

set_option maxHeartbeats 1000000 in
theorem qLives (w : World) : Calls Try.prog 11 #[] w fun e w' => e = .returned (.bool true) ∧ Below w.heap.size w w' := by
  have f1 : ∀ w, Calls Try.prog 9 #[.string ⟨#[34, 97, 92, 110, 34, 120]⟩] w fun e w' => e = .returned (.tuple #[.string ⟨#[97, 10]⟩, .int .i64 5, .int .i64 0]) ∧ Below w.heap.size w w' := fun w => qRead ⟨#[34, 97, 92, 110, 34, 120]⟩ (by decide) w
  have f2 : ∀ w, Calls Try.prog 8 #[.string ⟨#[97, 10, 255]⟩] w fun e w' => e = .returned (.string ⟨#[34, 97, 92, 110, 92, 120, 102, 102, 34]⟩) ∧ Below w.heap.size w w' := fun w => qQuote ⟨#[97, 10, 255]⟩ w (by decide)
  have F1 := Lib.hid f1
  have F2 := Lib.hid f2
  clear f1 f2
  go_enter Try.func11, Try.ntmps11
  go_wp2_with fail
  refine (F1.out _).mono ?_; rintro e w1 ⟨rfl, hb1⟩
  go_wp2_with fail
  refine (F2.out _).mono ?_; rintro e w2 ⟨rfl, hb2⟩
  have hb3 := hb1.up hb2
  go_wp2_with fail
  go_ret
  exact ⟨rfl, hb3⟩

set_option maxHeartbeats 2000000 in
theorem quoteBack (s0 b0 : ByteArray) (w : World) : Calls Try.prog 3 #[.string s0, .string b0] w fun e w' => e = .returned (.bool true) ∧ Below w.heap.size w w' := by
  go_enter Try.func3, Try.ntmps3
  go_wp2_with fail
  refine (xCut s0 60 _).mono ?_; rintro e w1 ⟨rfl, rfl⟩
  have hs := cutT_size s0 60
  generalize cutT s0 60 = s at *
  go_wp2_with fail
  refine (xCut b0 10 _).mono ?_; rintro e w1 ⟨rfl, rfl⟩
  have hbl := cutT_size b0 10
  generalize cutT b0 10 = b at *
  have f1 := fun w => qQuote s w (by omega)
  have f2 := fun w => rQuote s w (by omega)
  have hql : (quoteT s.data.toList).length ≤ 242 := by
    have h1 := flat_len s.data.toList
    have h2 : s.data.toList.length = s.size := rfl
    simp only [quoteT, List.length_cons, List.length_append, List.length_nil]; omega
  have hrt := read_quote s.data.toList b.data.toList
  obtain ⟨q, hq⟩ : ∃ q : ByteArray, q = ⟨(quoteT s.data.toList).toArray⟩ := ⟨_, rfl⟩
  have hqd : q.data.toList = quoteT s.data.toList := by rw [hq]
  have hqs : q.size = (quoteT s.data.toList).length := by rw [hq]; rfl
  rw [← hq] at f1 f2
  have f3 : ∀ w, Calls Try.prog 9 #[.string (q ++ b)] w fun e w' => e = .returned (.tuple #[.string s, .int .i64 q.size, .int .i64 0]) ∧ Below w.heap.size w w' := fun w => by
    have h1 : (q ++ b).size = q.size + b.size := ByteArray.size_append
    have := qRead (q ++ b) (by omega) w
    rw [show (q ++ b).data.toList = quoteT s.data.toList ++ b.data.toList by rw [← hqd]; simp, hrt, ← hqs] at this
    simp only [rdV, bytes_back] at this
    exact this
  have hz : ¬ 9223372036854775807 < q.size + b.size := by omega
  have F1 := Lib.hid f1
  have F2 := Lib.hid f2
  have F3 := Lib.hid f3
  clear f1 f2 f3 hrt hq hqd hqs hql
  go_wp2_with fail
  refine (F1.out _).mono ?_; rintro e w1 ⟨rfl, hb1⟩
  go_wp2_with fail
  refine (F2.out _).mono ?_; rintro e w2 ⟨rfl, hb2'⟩
  have hb2 := hb1.up hb2'
  clear hb1 hb2'
  go_wp2_with fail
  refine (F3.out _).mono ?_; rintro e w3 ⟨rfl, hb3'⟩
  have hb3 := hb2.up hb3'
  clear hb2 hb3'
  go_wp2_with fail
  refine (F2.out _).mono ?_; rintro e w4 ⟨rfl, hb4'⟩
  have hb4 := hb3.up hb4'
  clear hb3 hb4'
  go_wp2_with fail
  refine (qLives _).mono ?_; rintro e w5 ⟨rfl, hb5'⟩
  have hb5 := hb4.up hb5'
  clear hb4 hb5'
  go_wp2_with fail
  go_ret
  exact ⟨rfl, hb5⟩

set_option maxHeartbeats 2000000 in
theorem quoteWhole (s0 : ByteArray) (w : World) : Calls Try.prog 6 #[.string s0] w fun e w' => e = .returned (.bool true) ∧ Below w.heap.size w w' := by
  go_enter Try.func6, Try.ntmps6
  go_wp2_with fail
  refine (xCut s0 80 _).mono ?_; rintro e w1 ⟨rfl, rfl⟩
  have hs := cutT_size s0 80
  generalize cutT s0 80 = s at *
  obtain ⟨t, er, hv⟩ : ∃ (t : ByteArray) (er : Int), whV s.size (readT s.data.toList) = .tuple #[.string t, .int .i64 er] := by
    rcases readT s.data.toList with ⟨_ | l, n⟩
    · exact ⟨_, _, rfl⟩
    · simp only [whV]; split <;> exact ⟨_, _, rfl⟩
  have f1 := fun w => qWhole s (by omega) w
  have f2 := fun w => rWhole s (by omega) w
  rw [hv] at f1 f2
  have F1 := Lib.hid f1
  have F2 := Lib.hid f2
  clear f1 f2 hv
  go_wp2_with fail
  refine (F1.out _).mono ?_; rintro e w1 ⟨rfl, hb1⟩
  go_wp2_with fail
  refine (F2.out _).mono ?_; rintro e w2 ⟨rfl, hb2'⟩
  have hb2 := hb1.up hb2'
  clear hb1 hb2'
  go_wp2_with fail
  refine (qLives _).mono ?_; rintro e w5 ⟨rfl, hb5'⟩
  have hb5 := hb2.up hb5'
  clear hb2 hb5'
  go_wp2_with fail
  go_ret
  exact ⟨rfl, hb5⟩

set_option maxHeartbeats 4000000 in
theorem quoteReads (s0 : ByteArray) (w : World) : Calls Try.prog 5 #[.string s0] w fun e w' => e = .returned (.bool true) ∧ Below w.heap.size w w' := by
  go_enter Try.func5, Try.ntmps5
  go_wp2_with fail
  refine (xCut s0 80 _).mono ?_; rintro e w1 ⟨rfl, rfl⟩
  have hs := cutT_size s0 80
  generalize cutT s0 80 = s at *
  have f1 := fun w => qRead s (by omega) w
  have f2 := fun w => rRead s (by omega) w
  have hlen := @readT_len s.data.toList
  generalize readT s.data.toList = T at *
  rcases T with ⟨_ | l, n⟩
  · obtain ⟨er, her⟩ : ∃ er : Int, (if n = s.size then (3 : Int) else 2) = er := ⟨_, rfl⟩
    have h0 : (er == 0) = false := ne_b (by rw [← her]; split <;> omega)
    simp only [rdV, her] at f1 f2
    have F1 := Lib.hid f1
    have F2 := Lib.hid f2
    clear f1 f2 her hlen
    go_wp2_with fail
    refine (F1.out _).mono ?_; rintro e w1 ⟨rfl, hb1⟩
    go_wp2_with fail
    refine (F2.out _).mono ?_; rintro e w2 ⟨rfl, hb2'⟩
    have hb2 := hb1.up hb2'
    clear hb1 hb2'
    go_wp2_with fail
    refine (qLives _).mono ?_; rintro e w5 ⟨rfl, hb5'⟩
    have hb5 := hb2.up hb5'
    clear hb2 hb5'
    go_wp2_with fail
    go_ret
    exact ⟨rfl, hb5⟩
  · have hl := hlen rfl
    have hsl : s.data.toList.length = s.size := rfl
    rw [hsl] at hl
    simp only [rdV] at f1 f2
    obtain ⟨t, ht⟩ : ∃ t : ByteArray, t = ⟨l.toArray⟩ := ⟨_, rfl⟩
    have htd : t.data.toList = l := by rw [ht]
    have hts : t.size = l.length := by rw [ht]; rfl
    rw [← ht] at f1 f2
    have f3 := fun w => qQuote t w (by omega)
    rw [htd] at f3
    have hql : (quoteT l).length ≤ 322 := by
      have h1 := flat_len l
      simp only [quoteT, List.length_cons, List.length_append, List.length_nil]; omega
    obtain ⟨q, hq⟩ : ∃ q : ByteArray, q = ⟨(quoteT l).toArray⟩ := ⟨_, rfl⟩
    have hqs : q.size = (quoteT l).length := by rw [hq]; rfl
    rw [← hq] at f3
    have f4 : ∀ w, Calls Try.prog 13 #[.string q] w fun e w' => e = .returned (.tuple #[.string t, .int .i64 0]) ∧ Below w.heap.size w w' := fun w => by
      have h1 := qWhole q (by omega) w
      have h2 := read_quote l []
      rw [List.append_nil] at h2
      rw [show q.data.toList = quoteT l by rw [hq], h2] at h1
      simp only [whV, hqs, if_neg (Nat.lt_irrefl _), ← ht] at h1
      exact h1
    have F1 := Lib.hid f1
    have F2 := Lib.hid f2
    have F3 := Lib.hid f3
    have F4 := Lib.hid f4
    clear f1 f2 f3 f4 ht htd hts hq hqs hql hlen hl hsl
    go_wp2_with fail
    refine (F1.out _).mono ?_; rintro e w1 ⟨rfl, hb1⟩
    go_wp2_with fail
    refine (F2.out _).mono ?_; rintro e w2 ⟨rfl, hb2'⟩
    have hb2 := hb1.up hb2'
    clear hb1 hb2'
    go_wp2_with fail
    refine (F3.out _).mono ?_; rintro e w3 ⟨rfl, hb3'⟩
    have hb3 := hb2.up hb3'
    clear hb2 hb3'
    go_wp2_with fail
    refine (F4.out _).mono ?_; rintro e w4 ⟨rfl, hb4'⟩
    have hb4 := hb3.up hb4'
    clear hb3 hb4'
    go_wp2_with fail
    refine (qLives _).mono ?_; rintro e w5 ⟨rfl, hb5'⟩
    have hb5 := hb4.up hb5'
    clear hb4 hb5'
    go_wp2_with fail
    go_ret
    exact ⟨rfl, hb5⟩

set_option maxHeartbeats 4000000 in
theorem quoteStops (s0 b0 : ByteArray) (w : World) : Calls Try.prog 4 #[.string s0, .string b0] w fun e w' => e = .returned (.bool true) ∧ Below w.heap.size w w' := by
  go_enter Try.func4, Try.ntmps4
  go_wp2_with fail
  refine (xCut s0 60 _).mono ?_; rintro e w1 ⟨rfl, rfl⟩
  have hs := cutT_size s0 60
  generalize cutT s0 60 = s at *
  go_wp2_with fail
  refine (xCut b0 20 _).mono ?_; rintro e w1 ⟨rfl, rfl⟩
  have hbl := cutT_size b0 20
  generalize cutT b0 20 = b at *
  have f1 := fun w => qRead s (by omega) w
  have hpre := readT_pre s.data.toList
  have hle := readT_le s.data.toList
  have hsl : s.data.toList.length = s.size := rfl
  rw [hsl] at hle hpre
  generalize readT s.data.toList = T at *
  rcases T with ⟨_ | l, n⟩
  · obtain ⟨p1, p2⟩ := hpre rfl
    simp only at p1 p2 hle
    simp only [rdV] at f1
    have f2 : ∀ w, Calls Try.prog 9 #[.string (s.extract 0 n)] w fun e w' => e = .returned (.tuple #[.string ⟨#[]⟩, .int .i64 n, .int .i64 3]) ∧ Below w.heap.size w w' := fun w => by
      have hz : (s.extract 0 n).size = n := ext_size s hle
      have hd : (s.extract 0 n).data.toList = s.data.toList.take n := by simp
      have := qRead (s.extract 0 n) (by omega) w
      rw [hd, p1] at this
      simp only [rdV, hz, if_pos] at this
      exact this
    by_cases hn : n = s.size
    · subst hn
      have er : (if s.size = s.size then (3 : Int) else 2) = 3 := if_pos rfl
      rw [er] at f1
      rw [ext_all s (Nat.le_refl _)] at f2
      have F1 := Lib.hid f1
      have F2 := Lib.hid f2
      clear f1 f2 p1 p2 hpre er hsl
      go_wp2_with fail
      refine (F1.out _).mono ?_; rintro e w1 ⟨rfl, hb1⟩
      go_wp2_with fail
      refine (F2.out _).mono ?_; rintro e w2 ⟨rfl, hb2'⟩
      have hb2 := hb1.up hb2'
      clear hb1 hb2'
      go_wp2_with fail
      refine (qLives _).mono ?_; rintro e w5 ⟨rfl, hb5'⟩
      have hb5 := hb2.up hb5'
      clear hb2 hb5'
      go_wp2_with fail
      go_ret
      exact ⟨rfl, hb5⟩
    · have hlt : n < s.size := by omega
      have er : (if n = s.size then (3 : Int) else 2) = 2 := if_neg hn
      rw [er] at f1
      have f3 : ∀ w, Calls Try.prog 9 #[.string (s.extract 0 (n + 1) ++ b)] w fun e w' => e = .returned (.tuple #[.string ⟨#[]⟩, .int .i64 n, .int .i64 2]) ∧ Below w.heap.size w w' := fun w => by
        have hz : (s.extract 0 (n + 1)).size = n + 1 := ext_size s (by omega)
        have hz2 : (s.extract 0 (n + 1) ++ b).size = n + 1 + b.size := by rw [ByteArray.size_append, hz]
        have hd : (s.extract 0 (n + 1) ++ b).data.toList = s.data.toList.take (n + 1) ++ b.data.toList := by simp
        have := qRead (s.extract 0 (n + 1) ++ b) (by omega) w
        rw [hd, p2 hlt] at this
        simp only [rdV, hz2, if_neg (show ¬ n = n + 1 + b.size by omega)] at this
        exact this
      have hz3 : (s.extract 0 (n + 1)).size = n + 1 := ext_size s (by omega)
      have hz4 : ¬ 9223372036854775807 < (s.extract 0 (n + 1)).size + b.size := by omega
      have e1 : ((n : Int) == (s.size : Int)) = false := ne_b (by omega)
      have e2 : (n : Int) + 1 ≤ (s.size : Int) := by omega
      have e3 : (n : Int) ≤ (s.size : Int) := by omega
      have F1 := Lib.hid f1
      have F2 := Lib.hid f2
      have F3 := Lib.hid f3
      clear f1 f2 f3 p1 p2 hpre er hsl hz3 hn
      go_wp2_with fail
      refine (F1.out _).mono ?_; rintro e w1 ⟨rfl, hb1⟩
      go_wp2_with fail
      refine (F2.out _).mono ?_; rintro e w2 ⟨rfl, hb2'⟩
      have hb2 := hb1.up hb2'
      clear hb1 hb2'
      go_wp2_with fail
      refine (F3.out _).mono ?_; rintro e w3 ⟨rfl, hb3'⟩
      have hb3 := hb2.up hb3'
      clear hb2 hb3'
      go_wp2_with fail
      refine (qLives _).mono ?_; rintro e w5 ⟨rfl, hb5'⟩
      have hb5 := hb3.up hb5'
      clear hb3 hb5'
      go_wp2_with fail
      go_ret
      exact ⟨rfl, hb5⟩
  · simp only [rdV] at f1
    have F1 := Lib.hid f1
    clear f1 hpre hsl
    go_wp2_with fail
    refine (F1.out _).mono ?_; rintro e w1 ⟨rfl, hb1⟩
    go_wp2_with fail
    refine (qLives _).mono ?_; rintro e w5 ⟨rfl, hb5'⟩
    have hb5 := hb1.up hb5'
    clear hb1 hb5'
    go_wp2_with fail
    go_ret
    exact ⟨rfl, hb5⟩
end Go.Proofs.Ytnaacbibciplfaa
