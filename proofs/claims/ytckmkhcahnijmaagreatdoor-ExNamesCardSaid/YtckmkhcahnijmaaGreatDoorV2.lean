/- The walks of the program: ex.parts. -/
import Derived.Test.YtckmkhcahnijmaaGreatDoorV1
namespace Go.Proofs.YtckmkhcahnijmaaGreatDoor
open Go.RowKit
set_option linter.unusedVariables false
set_option linter.unusedSimpArgs false

theorem bcell {W w1 : World} (hb : Below W.heap.size W w1) : (∀ b o, b < W.heap.size → w1.cell? ⟨b, o, none⟩ = W.cell? ⟨b, o, none⟩) ∧ (∀ b o, b < W.heap.size → w1.frozen? ⟨b, o, none⟩ = W.frozen? ⟨b, o, none⟩) :=
  ⟨fun b o h => hb.cell (p := ⟨b, o, none⟩) h, fun b o h => hb.frozen (p := ⟨b, o, none⟩) h⟩
def PartsPost (L : List UInt8) (w : World) (e : Ending) (w' : World) : Prop :=
  (partsG L [] [] = none ∧ e = .returned (.tuple #[.slice none 0 0, .bool false]) ∨ ∃ l v, partsG L [] [] = some l ∧ e = .returned (.tuple #[v, .bool true]) ∧ w'.ownsRow w.heap.size 9 1 v l.length (vstrs l)) ∧ Below w.heap.size w w'

set_option maxRecDepth 100000 in
set_option maxHeartbeats 1000000 in
theorem parts_any (s : ByteArray) (w : World) (hs : s.size ≤ 65536) : Calls Tryz.prog 62 #[.string s] w (PartsPost s.data.toList w) := by
  obtain ⟨i0, hi, hz0, hz1, hz2⟩ := info_parts Tryz.info9
  go_enter Tryz.func62, Tryz.ntmps62
  go_wp2
  go_loopw [4, 5] (fun o i wr => ∃ (k : Nat) (ini : List (List UInt8)) (lst : List UInt8) (g cap : Nat), k ≤ s.size ∧ i = .int .i64 k ∧ ini.length + lst.length ≤ k ∧ o = .slice (some ⟨g, 0, none⟩) (ini.length + 1) cap ∧
      wr.ownsRow w.heap.size 9 1 (.slice (some ⟨g, 0, none⟩) (ini.length + 1) cap) (ini.length + 1) (vstrs (ini ++ [lst])) ∧ partsG s.data.toList [] [] = partsG (s.data.toList.drop k) ini lst ∧ Below w.heap.size w wr) (fun _ i _ => s.size - (intOf i).toNat)
  case atStart =>
    refine ⟨0, [], [], w.heap.size, 1, by omega, rfl, by simp, rfl, ?_, rfl, (Below.refl _ _).alloc (Nat.le_refl _) _⟩
    exact World.ownsRow_lit w #[.string ⟨#[]⟩] 1 (Nat.le_refl _) (by unfold maxLen; omega) rfl
  case round =>
    obtain ⟨k, ini, lst, g, cap, hk, rfl, hl, rfl, hown, hr, hb⟩ := hrel
    have HR := Lib.hid hr; clear hr
    have hc : wr.cell? ⟨g, ini.length, none⟩ = some (.string (bs lst)) := by
      rw [hown.cellAt _ (by omega)]; simp [vstrs]
    have hf : wr.frozen? ⟨g, ini.length, none⟩ = false := hown.frozenAt _
    have hg := (hown.lt g rfl).1
    by_cases hlt : k < s.size
    · have hb1 : ((s[k].toNat : Int) == 47) = (s[k] == 47) := beq_byte _ 47
      have hb2 : ((s[k].toNat : Int) == 92) = (s[k] == 92) := beq_byte _ 92
      have HD := Lib.hid (drop_cons s k hlt)
      cases h1 : s[k] == 47
      · cases h2 : s[k] == 92
        · have n1 : s[k] ≠ 47 := by simpa using h1
          have n2 : s[k] ≠ 92 := by simpa using h2
          have HP : Hid (partsG s.data.toList [] [] = partsG (s.data.toList.drop (k + 1)) ini (lst ++ [s[k]])) := Lib.hid (by rw [HR.out, HD.out, partsG_plain n1 n2])
          clear n1 n2
          have hz : (s.extract k (k + 1)).size = 1 := by simp; omega
          have hbz : (bs lst).size = lst.length := rfl
          have w1 : IntKind.i64.wrap (ini.length : Int) = ini.length := IntWalk.i64_in _ (by omega)
          have w2 : IntKind.i64.wrap ((k : Int) + 1) = (k : Int) + 1 := IntWalk.i64_in _ (by omega)
          have w3 : ((k : Int) + 1).toNat = k + 1 := by omega
          have w4 : (k : Int) ≤ (k : Int) + 1 := by omega
          have w5 : (k : Int) + 1 ≤ s.size := by omega
          have w6 : (0 : Int) ≤ k := by omega
          have w7 : (0 : Int) ≤ (k : Int) + 1 := by omega
          have w8 : (ini.length : Int) < (ini.length : Int) + 1 := by omega
          have w9 : ¬ 9223372036854775807 < lst.length + 1 := by omega
          go_upto_region 12 with fail
          refine wp_region_still_tail 13 (by kernel_rfl) (by kernel_rfl) ?_
          simp only [List.take_succ_cons, List.take_zero, List.drop_succ_cons, List.drop_zero]
          repeat still_step
          refine wpStill_nil ?_
          clear w1 w2 w3
          go_wp2
          go_roundw
          case rel =>
            refine ⟨k + 1, ini, lst ++ [s[k]], g, cap, by omega, by go_num, by simp; omega, rfl, ?_, HP.out, (hb.setCell hg _).drew⟩
            rw [← vstrs_set ini lst _ _ (one_L s k hlt)]
            exact (hown.stored _ _).1
          case measure => simp [intOf]; omega
        · have n2 : s[k] = 92 := by simpa using h2
          by_cases h3 : k + 1 < s.size
          · have hb3 : ((s[k + 1].toNat : Int) != 47) = !(s[k + 1] == 47) := by simp only [bne]; exact congrArg _ (beq_byte _ 47)
            have hb4 : ((s[k + 1].toNat : Int) != 92) = !(s[k + 1] == 92) := by simp only [bne]; exact congrArg _ (beq_byte _ 92)
            have h3' : ((k : Int) + 1 == s.size) = false := by rw [beq_eq_false_iff_ne]; omega
            have HD2 := Lib.hid (drop_cons s (k + 1) h3)
            cases h4 : (s[k + 1] != 47 && s[k + 1] != 92)
            · have hd : s[k + 1] = 47 ∨ s[k + 1] = 92 := by
                rw [Bool.and_eq_false_iff] at h4
                simpa [bne] using h4
              have HP : Hid (partsG s.data.toList [] [] = partsG (s.data.toList.drop ((k + 1) + 1)) ini (lst ++ [s[k + 1]])) := Lib.hid (by rw [HR.out, HD.out, HD2.out, partsG_esc n2 hd])
              clear n2
              have hz : (s.extract (k + 1) ((k + 1) + 1)).size = 1 := by simp; omega
              have hbz : (bs lst).size = lst.length := rfl
              have w1 : IntKind.i64.wrap (ini.length : Int) = ini.length := IntWalk.i64_in _ (by omega)
              have w2 : IntKind.i64.wrap (((k : Int) + 1) + 1) = ((k : Int) + 1) + 1 := IntWalk.i64_in _ (by omega)
              have w3 : (((k : Int) + 1) + 1).toNat = (k + 1) + 1 := by omega
              have w4 : ((k : Int) + 1) ≤ ((k : Int) + 1) + 1 := by omega
              have w5 : ((k : Int) + 1) + 1 ≤ s.size := by omega
              have w6 : (0 : Int) ≤ (k : Int) + 1 := by omega
              have w7 : (0 : Int) ≤ ((k : Int) + 1) + 1 := by omega
              have w8 : (ini.length : Int) < (ini.length : Int) + 1 := by omega
              have w9 : ¬ 9223372036854775807 < lst.length + 1 := by omega
              cases q1 : (s[k + 1] == 47) <;> cases q2 : (s[k + 1] == 92)
              · rcases hd with h | h
                · rw [h] at q1; simp at q1
                · rw [h] at q2; simp at q2
              all_goals
                simp only [q1, Bool.not_true, Bool.not_false] at hb3
                simp only [q2, Bool.not_true, Bool.not_false] at hb4
                clear h4 hd q1 q2
                go_upto_region 12 with fail
                refine wp_region_still_tail 13 (by kernel_rfl) (by kernel_rfl) ?_
                simp only [List.take_succ_cons, List.take_zero, List.drop_succ_cons, List.drop_zero]
                repeat still_step
                refine wpStill_nil ?_
                clear w1 w2 w3
                go_wp2
                go_roundw
                case rel =>
                  refine ⟨(k + 1) + 1, ini, lst ++ [s[k + 1]], g, cap, by omega, by go_num, by simp; omega, rfl, ?_, HP.out, (hb.setCell hg _).drew⟩
                  rw [← vstrs_set ini lst _ _ (one_L s (k + 1) h3)]
                  exact (hown.stored _ _).1
                case measure => simp [intOf]; omega
            · have HP : Hid (partsG s.data.toList [] [] = none) := Lib.hid (by
                rw [HR.out, HD.out, HD2.out]
                refine partsG_bad n2 ?_
                rw [Bool.and_eq_true] at h4; simpa using h4)
              rw [Bool.and_eq_true] at h4
              obtain ⟨h5, h6⟩ := h4
              have q1 : (s[k + 1] == 47) = false := by simpa [bne] using h5
              have q2 : (s[k + 1] == 92) = false := by simpa [bne] using h6
              simp only [q1, Bool.not_true, Bool.not_false] at hb3
              simp only [q2, Bool.not_true, Bool.not_false] at hb4
              clear n2 q1 q2 h5 h6
              go_wp2_with fail
              go_ret2
              exact ⟨.inl ⟨HP.out, rfl⟩, hb⟩
          · have h3' : ((k : Int) + 1 == s.size) = true := by rw [beq_iff_eq]; omega
            have HP : Hid (partsG s.data.toList [] [] = none) := Lib.hid (by
                rw [HR.out, HD.out, List.drop_of_length_le (by rw [L_len]; omega)]
                exact partsG_end n2)
            clear n2
            go_wp2_with fail
            go_ret2
            exact ⟨.inl ⟨HP.out, rfl⟩, hb⟩
      · have n1 : s[k] = 47 := by simpa using h1
        have HP : Hid (partsG s.data.toList [] [] = partsG (s.data.toList.drop (k + 1)) (ini ++ [lst]) []) := Lib.hid (by rw [HR.out, HD.out, partsG_slash n1])
        clear n1
        go_wp2_with (at_builtin; go_must (refine app1 _ rfl (.tmp 20) (.tmp 21) 49 rfl w.heap.size 9 i0 _ 16 Tryz.underlying49 hi hz0 hz1 hz2 rfl _ _ _ (by rfl) hown _ rfl (by rfl) (by omega) (by omega) hb.size ?_); intro g' cap' w1 hown1 hb1 _)
        go_roundw
        case rel =>
          refine ⟨k + 1, ini ++ [lst], [], g', cap', by omega, by go_num, by simp; omega, by simp, ?_, HP.out, hb1 _ hb⟩
          have e : vstrs (ini ++ [lst] ++ [[]]) = vstrs (ini ++ [lst]) ++ [.string ⟨#[]⟩] := by simp [vstrs]; rfl
          rw [e, show (ini ++ [lst]).length + 1 = ini.length + 1 + 1 by simp]
          exact hown1
        case measure => simp [intOf]; omega
    · have HK := Lib.hid (show k = s.size by omega)
      have HP : Hid (partsG s.data.toList [] [] = some (ini ++ [lst])) := Lib.hid (by rw [HR.out, List.drop_of_length_le (by rw [L_len]; omega)]; rfl)
      go_wp2
      go_ret2
      refine ⟨.inr ⟨_, _, HP.out, rfl, ?_⟩, hb⟩
      simpa using hown

end Go.Proofs.YtckmkhcahnijmaaGreatDoor
