/- The walks of the reference: numbers (damierref02). -/
import Derived.Test.YtckmkhcahnijmaaGreatDoorB
namespace Go.Proofs.YtckmkhcahnijmaaGreatDoor
open Go.RowKit
set_option linter.unusedVariables false
set_option linter.unusedSimpArgs false

theorem conv_one (w : World) (x : Int) : (convert 67 9 (.slice (some ⟨w.heap.size, 0, none⟩) 1 1)).run Tryz.prog (w.alloc (.cells #[.int .u8 x] 5)) = .ok (.string (strOfNums [x])) (w.alloc (.cells #[.int .u8 x] 5)) :=
  run_convert_bytes_arg _ 67 5 Tryz.underlying67 Tryz.underlying5 w.heap.size 0 1 1 [x] rfl (fun i hi => by
    obtain rfl : i = 0 := by omega
    simp [go_sem]) 9 Tryz.underlying9
set_option maxHeartbeats 400000 in
theorem rtext_any (n : Nat) (w : World) (hn : n ≤ 2147483647) :
    Calls Tryz.prog 23 #[.int .i64 n] w fun e w' => e = .returned (.string (bs (numB n))) ∧ Below w.heap.size w w' := by
  go_enter Tryz.func23, Tryz.ntmps23
  go_wp2
  go_loopw [3, 4] (fun o i wr => ∃ (k : Nat) (out : ByteArray), out.size + k ≤ n ∧ i = .int .i64 k ∧ o = .string out ∧ dgs n = dgs k ++ out.data.toList ∧ Below w.heap.size w wr) (fun _ i _ => (intOf i).toNat)
  case atStart => exact ⟨n, ⟨#[]⟩, Nat.le_of_eq (Nat.zero_add _), rfl, rfl, by simp, Below.refl _ _⟩
  case round =>
    obtain ⟨k, out, hk, rfl, rfl, hr, hb⟩ := hrel
    have HR := Lib.hid hr; clear hr
    cases hk0 : ((k : Int) == 0)
    · have h0 : 0 ≤ (k : Int) % 10 := by omega
      have h1 : (k : Int) % 10 < 10 := by omega
      have kc := conv_one wr
      have hsz : ∀ x, (strOfNums [x]).size = 1 := fun x => rfl
      go_wp2
      have hk1 : k ≠ 0 := by intro e; subst e; simp at hk0
      go_roundw
      case rel => exact ⟨k / 10, _, by simp only [ByteArray.size_append, hsz]; omega, by go_num, rfl, by rw [HR.out, dgs_pos hk1, app_L, strOf_one, List.append_assoc], hb.alloc hb.size _⟩
      case measure => simp [intOf]; omega
    · have hk1 : k = 0 := by simpa using hk0
      go_wp2
      · have h : ((n : Int) == 0) = true := by assumption
        have h' : n = 0 := by simpa using h
        go_ret
        exact ⟨ret_str (by rw [h']; rfl), hb⟩
      · have h : ((n : Int) == 0) = false := by assumption
        have h' : n ≠ 0 := by intro e; subst e; simp at h
        go_ret
        exact ⟨ret_str (ba_ext (by rw [bs_L, numB, if_neg h', HR.out, hk1, dgs_zero, List.nil_append])), hb⟩

set_option maxHeartbeats 400000 in
theorem rdigits_any (s : ByteArray) (most : Nat) (w : World) (hs : s.size ≤ 65536) (hm : most ≤ 2147483647) :
    Calls Tryz.prog 54 #[.string s, .int .i64 most] w fun e w' => e = .returned (.tuple #[.int .i64 (valD most 0 s.data.toList), .int .i64 (cnt dig s.data.toList)]) ∧ w = w' := by
  have h1 : decide ((most : Int) < 0) = false := by simp
  have h2 : decide (2147483647 < (most : Int)) = false := by simp; omega
  go_enter Tryz.func54, Tryz.ntmps54
  go_wp2
  go_loop [6, 7] (fun n i => ∃ k v : Nat, k ≤ s.size ∧ i = .int .i64 k ∧ n = .int .i64 v ∧ v ≤ most ∧ valD most 0 s.data.toList = valD most v (s.data.toList.drop k) ∧ cnt dig s.data.toList = k + cnt dig (s.data.toList.drop k)) (fun _ i => s.size - (intOf i).toNat)
  case atStart => exact ⟨0, 0, by omega, rfl, rfl, by omega, by simp, by simp⟩
  case round =>
    obtain ⟨k, v, hk, rfl, rfl, hv, hr, hr2⟩ := hrel
    have HR := Lib.hid hr; clear hr
    have HR2 := Lib.hid hr2; clear hr2
    by_cases hlt : k < s.size
    · have HD := Lib.hid (drop_cons s k hlt)
      have hbl : s[k].toNat < 256 := s[k].toNat_lt
      cases hd : dig s[k]
      · go_wp2_with (go_at_call 33; refine (digit_any _ _).mono ?_; rintro e w' ⟨rfl, rfl⟩)
        go_ret2
        refine ⟨ret_2 (int_eq ?_) (int_eq ?_), rfl⟩
        · rw [HR.out, HD.out, valD_stop hd]
        · rw [HR2.out, HD.out, cnt_stop hd, Nat.add_zero]
      · have hdr := dig_range hd
        by_cases hgt : (v : Int) * 10 + s[k].toNat - 48 > most
        all_goals
          go_wp2_with (go_at_call 33; refine (digit_any _ _).mono ?_; rintro e w' ⟨rfl, rfl⟩)
          go_round
          case rel => exact ⟨k + 1, min (v * 10 + (s[k].toNat - 48)) most, by omega, by go_num, int_eq (by omega), by omega, by rw [HR.out, HD.out, valD_step hd], by rw [HR2.out, HD.out, cnt_step hd]; omega⟩
          case measure => simp [intOf]; omega
    · have HK := Lib.hid (show k = s.size by omega)
      go_wp2
      go_ret2
      have hn : s.data.toList.drop k = [] := List.drop_of_length_le (by rw [L_len]; omega)
      refine ⟨ret_2 (int_eq ?_) (int_eq ?_), rfl⟩
      · rw [HR.out, hn]; rfl
      · rw [HR2.out, hn]; rfl
end Go.Proofs.YtckmkhcahnijmaaGreatDoor
