/-
  What the statement WireLong computes: 4096 bytes may come at once, and no more.
  Conditions: none.
-/
import Derived.Test.YtpnbcepljehogaaWireLaws
import Derived.Test.YtpnbcepljehogaaOwn
namespace Go.Proofs.Ytpnbcepljehogaa
open Go.RowKit

theorem infoByte : (Try.prog.info? 5).map (fun i => (i.zero, i.size, i.bytes)) = some (some (.int .u8 0), 1, 1) := by kernel_rfl

set_option maxHeartbeats 2000000 in
theorem wireLong (n : Int) (w : World) (hn : 0 ≤ n ∧ n ≤ 255) : Calls Try.prog 8 #[.int .u8 n] w fun e w' => e = .returned (.bool true) ∧ Below w.heap.size w w' := by
  go_enter Try.func8, Try.ntmps8
  go_wp2_with fail
  go_loopw [3] (fun v wr => ∃ (ao : Option Addr) (cap k : Nat), v = .slice ao k cap ∧ (k : Int) ≤ 4090 + n % 16 ∧ OB 5 w.heap.size wr v (List.replicate k 97) ∧ Below w.heap.size w wr) (fun v _ => 5000 - (match v with | .slice _ k _ => k | _ => 0))
  case atStart => exact ⟨_, 0, 0, rfl, by omega, OB.empty (Nat.le_refl _), (Below.refl _ _).alloc (Nat.le_refl _) _⟩
  case round =>
    obtain ⟨ao, cap, k, rfl, hk, hob, hb⟩ := hrel
    by_cases hlt : (k : Int) < 4090 + n % 16
    · have hm : k ≤ 1000000 := by omega
      go_wp2_with (at_builtin; refine wpList_append_byte infoByte Try.underlying67 _ rfl _ _ rfl w.heap.size _ _ rfl (hob.alloc _) wr.heap.size rfl 97 ?c1 ?c2 ?c3 ?c4)
      case c1 => exact cell_new1 _ _ _
      case c2 => simp; omega
      case c3 => have := hb.size; simp; omega
      case c4 =>
        intro ao' cap' w' h1 h2
        have hb' : Below w.heap.size w w' := OB.below (hob.alloc _) (hb.alloc hb.size _) h2 (Nat.le_refl _)
        have h3 : OB 5 w.heap.size w' (.slice ao' (k + 1) cap') (List.replicate (k + 1) 97) := h1.cast (by rw [List.replicate_succ'])
        clear h1 h2 hob hb
        go_wp2_with fail
        go_roundw
        case rel => exact ⟨ao', cap', k + 1, rfl, by omega, h3, hb'⟩
        case measure => simp; omega
    · obtain ⟨L, hL⟩ : ∃ L, L = List.replicate k (97 : UInt8) := ⟨_, rfl⟩
      have hLl : L.length = k := by rw [hL, List.length_replicate]
      rw [← hL] at hob
      have HLl := Lib.hid hLl
      clear hL hLl
      have hcv := hob.text (P := Try.prog) Try.underlying67 Try.underlying5 Try.underlying9
      have hcvv := fun w' (h : Below wr.heap.size wr w') => hcv w' h
      clear hcv hob
      have hs : (bs L).size = k := by rw [bs_size]; exact HLl.out
      have hl : (bs L).data.toList = L := rfl
      have hr := Below.refl wr.heap.size wr
      have HC := Lib.hid (show ∀ w', Below wr.heap.size wr w' → (convert 67 9 (.slice ao k cap)).run Try.prog w' = .ok (.string (bs L)) w' from hcvv)
      clear hcvv
      generalize bs L = u at *
      have HS := Lib.hid hs
      have HL := Lib.hid hl
      clear hs hl
      by_cases hbig : 4096 < (k : Int)
      · go_wp2_with fail
        refine (aNewB _ _ _ hb (Nat.le_refl _)).mono ?_; rintro e w1 ⟨rfl, k1, hb1⟩
        have hcv := HC.out w1 hb1
        go_wp2_with fail
        refine (aOffer0 _ _ _ _ _ _ _ _ _ _ k1 (.inr (by rw [HS.out]; omega))).mono ?_; rintro e w2 ⟨rfl, rfl⟩
        clear hcv
        go_wp2_with fail
        refine (aLen _ _ _ _ _ _ _ _ k1).mono ?_; rintro e w2 ⟨rfl, rfl⟩
        go_wp2_with fail
        refine (aEof _ _ _ _ _ _ _ _ k1).mono ?_; rintro e w2 ⟨rfl, k2⟩
        have hb2 := k2.below
        go_wp2_with fail
        refine (wLives _).mono ?_; rintro e w3 ⟨rfl, hb3⟩
        have hb4 := hb2.up hb3
        clear hb2 hb3
        go_wp2_with fail
        go_ret
        exact ⟨rfl, hb4⟩
      · go_wp2_with fail
        refine (aNewB _ _ _ hb (Nat.le_refl _)).mono ?_; rintro e w1 ⟨rfl, k1, hb1⟩
        have hcv := HC.out w1 hb1
        go_wp2_with fail
        refine (aOffer1 _ _ _ _ _ _ _ _ _ k1 (by rw [HS.out]; omega) (by decide) (by decide)).mono ?_; rintro e w2 ⟨rfl, k2⟩
        clear hcv
        rw [List.nil_append, HL.out, HS.out] at k2
        go_wp2_with fail
        refine (aLen _ _ _ _ _ _ _ _ k2).mono ?_; rintro e w3 ⟨rfl, rfl⟩
        rw [HLl.out]
        go_wp2_with fail
        refine (aEof _ _ _ _ _ _ _ _ k2).mono ?_; rintro e w3 ⟨rfl, k3⟩
        have hb2 := k3.below
        go_wp2_with fail
        refine (wLives _).mono ?_; rintro e w4 ⟨rfl, hb3⟩
        have hb4 := hb2.up hb3
        clear hb2 hb3
        go_wp2_with fail
        go_ret
        exact ⟨rfl, hb4⟩
end Go.Proofs.Ytpnbcepljehogaa
