/- The walks of the reference's text functions (damierref02, damierref25). -/
import Derived.Test.YtckmkhcahnijmaaGreatDoorA
import Derived.Test.YtckmkhcahnijmaaGreatDoorProg
import Derived.Deep.QuietTactic
import Derived.BigQuiet
namespace Go.Proofs.YtckmkhcahnijmaaGreatDoor
open Go.RowKit
set_option linter.unusedVariables false
set_option linter.unusedSimpArgs false

set_option maxHeartbeats 400000 in
theorem digit_any (c : UInt8) (w : World) :
    Calls Tryz.prog 33 #[.int .u8 c.toNat] w fun e w' => e = .returned (.bool (dig c)) ∧ w = w' := by
  go_enter Tryz.func33, Tryz.ntmps33
  go_wp2
  all_goals
    go_ret
    refine ⟨ret_bool ?_, rfl⟩
    unfold dig
  · have h : 48 ≤ c.toNat := by omega
    simp [h]
    omega
  · have h : ¬ 48 ≤ c.toNat := by omega
    simp [h]

set_option maxHeartbeats 400000 in
theorem cut_any (s : ByteArray) (n : Nat) (w : World) (hn : n < 1000) :
    Calls Tryz.prog 17 #[.string s, .int .i64 n] w fun e w' => e = .returned (.string (bs (s.data.toList.take n))) ∧ w = w' := by
  go_enter Tryz.func17, Tryz.ntmps17
  go_wp2
  · go_ret
    exact ⟨ret_str (ba_ext (by rw [ext_L, bs_L]; rfl)), rfl⟩
  · go_ret
    refine ⟨ret_str (ba_ext ?_), rfl⟩
    rw [bs_L, List.take_of_length_le (by rw [L_len]; omega)]

set_option maxHeartbeats 400000 in
theorem starts_any (s t : ByteArray) (w : World) :
    Calls Tryz.prog 31 #[.string s, .string t] w fun e w' => e = .returned (.bool (t.data.toList.isPrefixOf s.data.toList)) ∧ w = w' := by
  generalize hp : t.data.toList.isPrefixOf s.data.toList = p
  have hp' : p = true ↔ t.data.toList <+: s.data.toList := by rw [← hp]; exact List.isPrefixOf_iff_prefix
  have HP := Lib.hid hp'; clear hp' hp
  go_enter Tryz.func31, Tryz.ntmps31
  go_wp2
  · go_ret
    refine ⟨ret_bool ?_, rfl⟩
    rw [Bool.eq_iff_iff, HP.out, beq_iff_eq, toList_L, toList_L, ext_L, List.prefix_iff_eq_take]
    simp only [List.drop_zero, L_len]
    exact eq_comm
  · go_ret
    refine ⟨ret_bool ?_, rfl⟩
    rw [eq_comm, Bool.eq_false_iff, ne_eq, HP.out]
    intro h
    have := h.length_le
    rw [L_len, L_len] at this
    omega

set_option maxHeartbeats 400000 in
theorem head_any (s : ByteArray) (w : World) (hs : s.size ≤ 9223372036854775807) :
    Calls Tryz.prog 30 #[.string s] w fun e w' => e = .returned (.string (s.extract 0 (hd s.data.toList))) ∧ w = w' := by
  generalize hq : hd s.data.toList = q
  have HQ := Lib.hid hq; clear hq
  go_enter Tryz.func30, Tryz.ntmps30
  go_wp2
  go_loop [3] (fun i => ∃ k : Nat, k ≤ s.size ∧ i = .int .i64 k ∧ hd s.data.toList = k + hd (s.data.toList.drop k)) (fun i => s.size - (intOf i).toNat)
  case atStart => exact ⟨0, by omega, rfl, by simp⟩
  case round =>
    obtain ⟨k, hk, rfl, hr⟩ := hrel
    have HR := Lib.hid hr; clear hr
    by_cases hlt : k < s.size
    · have hb : ((s[k].toNat : Int) == 32) = (s[k] == 32) := beq_byte _ 32
      have HD := Lib.hid (drop_cons s k hlt)
      go_wp2
      · have h32 : (s[k] == 32) = true := by assumption
        go_ret
        refine ⟨ret_str ?_, rfl⟩
        rw [← HQ.out, HR.out, HD.out, hd_stop h32]; rfl
      · have h32 : (s[k] == 32) = false := by assumption
        go_round
        case rel => exact ⟨k + 1, by omega, by go_num, by rw [HR.out, HD.out, hd_go h32]; omega⟩
        case measure => simp [intOf]; omega
    · have HK := Lib.hid (show k = s.size by omega)
      go_wp2
      go_ret
      refine ⟨ret_str ?_, rfl⟩
      rw [← HQ.out, HR.out, HK.out, List.drop_of_length_le (by rw [L_len]; omega), hd_nil, Nat.add_zero]
      exact ba_ext (by rw [ext_L, take_all, List.drop_zero])

set_option maxHeartbeats 400000 in
theorem plain_any (s : ByteArray) (w : World) (hs : s.size ≤ 9223372036854775807) :
    Calls Tryz.prog 39 #[.string s] w fun e w' => e = .returned (.bool (noEnd s.data.toList)) ∧ w = w' := by
  go_enter Tryz.func39, Tryz.ntmps39
  go_wp2
  go_loop [3] (fun i => ∃ k : Nat, k ≤ s.size ∧ i = .int .i64 k ∧ noEnd s.data.toList = noEnd (s.data.toList.drop k)) (fun i => s.size - (intOf i).toNat)
  case atStart => exact ⟨0, by omega, rfl, by simp⟩
  case round =>
    obtain ⟨k, hk, rfl, hr⟩ := hrel
    have HR := Lib.hid hr; clear hr
    by_cases hlt : k < s.size
    · have hb : ((s[k].toNat : Int) == 10) = (s[k] == 10) := beq_byte _ 10
      have hb2 : ((s[k].toNat : Int) == 13) = (s[k] == 13) := beq_byte _ 13
      have HD := Lib.hid (drop_cons s k hlt)
      by_cases h10 : s[k] == 10
      · go_wp2
        go_ret
        exact ⟨ret_bool (by rw [HR.out, HD.out, noEnd_cons]; simp [bne, h10]), rfl⟩
      · by_cases h13 : s[k] == 13
        · go_wp2
          go_ret
          exact ⟨ret_bool (by rw [HR.out, HD.out, noEnd_cons]; simp [bne, h13]), rfl⟩
        · go_wp2
          go_round
          case rel => exact ⟨k + 1, by omega, by go_num, by rw [HR.out, HD.out, noEnd_cons]; simp [bne, h13, h10]⟩
          case measure => simp [intOf]; omega
    · have HK := Lib.hid (show k = s.size by omega)
      go_wp2
      go_ret
      refine ⟨ret_bool ?_, rfl⟩
      rw [HR.out, HK.out, List.drop_of_length_le (by rw [L_len]; omega)]
      rfl

set_option maxHeartbeats 400000 in
theorem slashes_any (s : ByteArray) (w : World) (hs : s.size ≤ 65536) :
    Calls Tryz.prog 24 #[.string s] w fun e w' => e = .returned (.string (bs (esc s.data.toList))) ∧ w = w' := by
  go_enter Tryz.func24, Tryz.ntmps24
  go_wp2
  go_loop [3, 4] (fun o i => ∃ (k : Nat) (out : ByteArray), k ≤ s.size ∧ i = .int .i64 k ∧ o = .string out ∧ out.size ≤ 2 * k ∧ esc s.data.toList = out.data.toList ++ esc (s.data.toList.drop k)) (fun _ i => s.size - (intOf i).toNat)
  case atStart => exact ⟨0, ⟨#[]⟩, by omega, rfl, rfl, Nat.le_refl _, by simp⟩
  case round =>
    obtain ⟨k, out, hk, rfl, rfl, ho, hr⟩ := hrel
    have HR := Lib.hid hr; clear hr
    by_cases hlt : k < s.size
    · have hb : ((s[k].toNat : Int) == 47) = (s[k] == 47) := beq_byte _ 47
      have hb2 : ((s[k].toNat : Int) == 92) = (s[k] == 92) := beq_byte _ 92
      have HD := Lib.hid (drop_cons s k hlt)
      have hz : (s.extract k (k + 1)).size = 1 := by simp; omega
      have HZ := Lib.hid (one_L s k hlt)
      cases h1 : s[k] == 47 <;> cases h2 : s[k] == 92
      all_goals
        go_wp2
        go_round
        case rel =>
          refine ⟨k + 1, _, by omega, by go_num, rfl, ?_, by rw [HR.out, HD.out, esc_cons]; simp only [app_L, HZ.out]; simp [h1, h2]⟩
          simp only [ByteArray.size_append, hz, one_size]
          omega
        case measure => simp [intOf]; omega
    · have HK := Lib.hid (show k = s.size by omega)
      go_wp2
      go_ret
      refine ⟨ret_str (ba_ext ?_), rfl⟩
      rw [bs_L, HR.out, HK.out, List.drop_of_length_le (by rw [L_len]; omega)]
      simp [esc]

end Go.Proofs.YtckmkhcahnijmaaGreatDoor
