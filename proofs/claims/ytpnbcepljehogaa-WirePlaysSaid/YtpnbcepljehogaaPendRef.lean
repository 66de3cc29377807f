/-
  Contracts of the reference of package pend: three texts.
  Conditions: the numbers are of their Go kinds.
-/
import Derived.Test.YtpnbcepljehogaaPend
namespace Go.Proofs.Ytpnbcepljehogaa
open Go.RowKit

/-! The reference. -/
theorem rWithin (x lo hi : Int) (w : World) (hlh : lo ≤ hi) : Calls Try.prog 84 #[.int .i64 x, .int .i64 lo, .int .i64 hi] w fun e w' => e = .returned (.int .i64 (min (max x lo) hi)) ∧ w = w' := by
  by_cases h : x < lo
  · have e : min (max x lo) hi = lo := by omega
    rw [e]
    go_enter Try.func84, Try.ntmps84
    go_wp2
    go_ret
    exact ⟨rfl, rfl⟩
  · by_cases h2 : hi < x
    · have e : min (max x lo) hi = hi := by omega
      rw [e]
      go_enter Try.func84, Try.ntmps84
      go_wp2
      go_ret
      exact ⟨rfl, rfl⟩
    · have e : min (max x lo) hi = x := by omega
      rw [e]
      go_enter Try.func84, Try.ntmps84
      go_wp2
      go_ret
      exact ⟨rfl, rfl⟩

abbrev PV (a b c : ByteArray) (m tr : Int) : Value := .agg #[.string a, .string b, .string c, .int .i64 m, .int .i64 tr]

theorem rNew (out : Int) (w : World) : Calls Try.prog 41 #[.int .i64 out] w
    fun e w' => e = .returned (PV ⟨#[]⟩ ⟨#[]⟩ ⟨#[]⟩ (min (max out 1) 4096) 0) ∧ Below w.heap.size w w' := by
  go_enter Try.func41, Try.ntmps41
  go_wp2_with fail
  refine (rWithin _ _ _ _ (by omega)).mono ?_; rintro e w1 ⟨rfl, rfl⟩
  go_wp2_with fail
  exact bodyPost_ret (v := PV ⟨#[]⟩ ⟨#[]⟩ ⟨#[]⟩ (min (max out 1) 4096) 0) (by simp [results, Try.results41, go_sem]) rfl ⟨rfl, by (repeat' (first | exact Below.refl _ _ | assumption | apply Below.drew | apply below_drewN | refine Below.setCell ?_ (by first | assumption | (simp; done) | (simp <;> omega)) _ | refine Below.alloc ?_ (by first | exact Nat.le_refl _ | assumption | (simp; done) | (simp <;> omega)) _))⟩

theorem rBegin (a b c s : ByteArray) (m tr : Int) (w : World) : Calls Try.prog 42 #[PV a b c m tr, .string s] w
    fun e w' => e = .returned (PV ⟨#[]⟩ ⟨#[]⟩ s m 0) ∧ Below w.heap.size w w' := by
  go_enter Try.func42, Try.ntmps42
  go_wp2_with fail
  exact bodyPost_ret (v := PV ⟨#[]⟩ ⟨#[]⟩ s m 0) (by simp [results, Try.results42, go_sem]) rfl ⟨rfl, by (repeat' (first | exact Below.refl _ _ | assumption | apply Below.drew | apply below_drewN | refine Below.setCell ?_ (by first | assumption | (simp; done) | (simp <;> omega)) _ | refine Below.alloc ?_ (by first | exact Nat.le_refl _ | assumption | (simp; done) | (simp <;> omega)) _))⟩

theorem notEmpty {b : ByteArray} (h : b ≠ ⟨#[]⟩) : b.toList.isEmpty = false := by
  rw [ByteArray.toList_eq]
  cases hl : b.data.toList with
  | nil => exact absurd (ByteArray.ext (by simpa using hl)) h
  | cons _ _ => rfl

theorem rLoad0 (a b c : ByteArray) (m tr : Int) (w : World) (hb : b ≠ ⟨#[]⟩) : Calls Try.prog 43 #[PV a b c m tr] w
    fun e w' => e = .returned (.tuple #[PV a b c m tr, .int .i64 0]) ∧ Below w.heap.size w w' := by
  have hb' := notEmpty hb
  go_enter Try.func43, Try.ntmps43
  go_wp2_with fail
  exact bodyPost_ret (v := .tuple #[PV a b c m tr, .int .i64 0]) (by simp [results, Try.results43, go_sem]) rfl ⟨rfl, by (repeat' (first | exact Below.refl _ _ | assumption | apply Below.drew | apply below_drewN | refine Below.setCell ?_ (by first | assumption | (simp; done) | (simp <;> omega)) _ | refine Below.alloc ?_ (by first | exact Nat.le_refl _ | assumption | (simp; done) | (simp <;> omega)) _))⟩

set_option maxHeartbeats 1000000 in
theorem rLoad1 (a c : ByteArray) (m tr : Int) (w : World) (hm : 1 ≤ m) (n : Nat) (hn : (n : Int) = min (c.size : Int) m) : Calls Try.prog 43 #[PV a ⟨#[]⟩ c m tr] w
    fun e w' => e = .returned (.tuple #[PV a (c.extract 0 n) (c.extract n c.size) m tr, .int .i64 n]) ∧ Below w.heap.size w w' := by
  have e1 : min (max (c.size : Int) 0) m = (n : Int) := by omega
  have e2 : (n : Int) ≤ (c.size : Int) := by omega
  have e3 : (0 : Int) ≤ (n : Int) := by omega
  have HN := Lib.hid hn
  clear hn
  go_enter Try.func43, Try.ntmps43
  go_wp2_with fail
  refine (rWithin _ _ _ _ (by omega)).mono ?_; rintro e w1 ⟨rfl, rfl⟩
  rw [e1]
  go_upto_region 4 with fail
  go_region
  go_wp2_with fail
  exact bodyPost_ret (v := .tuple #[PV a (c.extract 0 n) (c.extract n c.size) m tr, .int .i64 n]) (by simp [results, Try.results43, go_sem]) rfl ⟨rfl, by (repeat' (first | exact Below.refl _ _ | assumption | apply Below.drew | apply below_drewN | refine Below.setCell ?_ (by first | assumption | (simp; done) | (simp <;> omega)) _ | refine Below.alloc ?_ (by first | exact Nat.le_refl _ | assumption | (simp; done) | (simp <;> omega)) _))⟩

theorem rTake0 (a c : ByteArray) (n m tr : Int) (w : World) : Calls Try.prog 44 #[PV a ⟨#[]⟩ c m tr, .int .i64 n] w
    fun e w' => e = .returned (.tuple #[PV a ⟨#[]⟩ c m tr, .string ⟨#[]⟩]) ∧ Below w.heap.size w w' := by
  go_enter Try.func44, Try.ntmps44
  go_wp2_with fail
  exact bodyPost_ret (v := .tuple #[PV a ⟨#[]⟩ c m tr, .string ⟨#[]⟩]) (by simp [results, Try.results44, go_sem]) rfl ⟨rfl, by (repeat' (first | exact Below.refl _ _ | assumption | apply Below.drew | apply below_drewN | refine Below.setCell ?_ (by first | assumption | (simp; done) | (simp <;> omega)) _ | refine Below.alloc ?_ (by first | exact Nat.le_refl _ | assumption | (simp; done) | (simp <;> omega)) _))⟩

set_option maxHeartbeats 1000000 in
theorem rTake1 (a b c s q : ByteArray) (n m tr tr' : Int) (w : World) (hb : b ≠ ⟨#[]⟩) (k : Nat) (hk : (k : Int) = min (max n 0) (b.size : Int)) (hs : b.extract 0 k = s) (hq : b.extract k b.size = q)
    (hz : a.size + s.size ≤ 9223372036854775807) (ht : (q ≠ ⟨#[]⟩ → tr' = wrap64 (tr + 1)) ∧ (q = ⟨#[]⟩ → tr' = tr)) : Calls Try.prog 44 #[PV a b c m tr, .int .i64 n] w
    fun e w' => e = .returned (.tuple #[PV (a ++ s) q c m tr', .string s]) ∧ Below w.heap.size w w' := by
  have hz1 : ¬ 9223372036854775807 < a.size + s.size := by omega
  have e1 : min (max n 0) (b.size : Int) = (k : Int) := by omega
  have e2 : (k : Int) ≤ (b.size : Int) := by omega
  have e3 : (0 : Int) ≤ (k : Int) := by omega
  have e4 : (0 : Int) ≤ (b.size : Int) := by omega
  have HT := Lib.hid ht
  have hb' := notEmpty hb
  clear hk ht
  go_enter Try.func44, Try.ntmps44
  go_wp2_with fail
  refine (rWithin _ _ _ _ (by omega)).mono ?_; rintro e w1 ⟨rfl, rfl⟩
  rw [e1]
  go_upto_region 5 with fail
  go_region
  by_cases hz : q = ⟨#[]⟩
  · obtain rfl := HT.out.2 hz
    subst hz
    go_wp2_with fail
    exact bodyPost_ret (v := .tuple #[PV (a ++ s) ⟨#[]⟩ c m tr', .string s]) (by simp [results, Try.results44, go_sem]) rfl ⟨rfl, by (repeat' (first | exact Below.refl _ _ | assumption | apply Below.drew | apply below_drewN | refine Below.setCell ?_ (by first | assumption | (simp; done) | (simp <;> omega)) _ | refine Below.alloc ?_ (by first | exact Nat.le_refl _ | assumption | (simp; done) | (simp <;> omega)) _))⟩
  · obtain rfl := HT.out.1 hz
    have hz' := notEmpty hz
    go_wp2_with fail
    exact bodyPost_ret (v := .tuple #[PV (a ++ s) q c m (wrap64 (tr + 1)), .string s]) (by simp [results, Try.results44, go_sem]) rfl ⟨rfl, by (repeat' (first | exact Below.refl _ _ | assumption | apply Below.drew | apply below_drewN | refine Below.setCell ?_ (by first | assumption | (simp; done) | (simp <;> omega)) _ | refine Below.alloc ?_ (by first | exact Nat.le_refl _ | assumption | (simp; done) | (simp <;> omega)) _))⟩
end Go.Proofs.Ytpnbcepljehogaa
