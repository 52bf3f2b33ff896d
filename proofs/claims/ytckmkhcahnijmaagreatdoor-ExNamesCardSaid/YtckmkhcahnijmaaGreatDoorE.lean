/- The walk of the reference: pieces between slashes (damierref25.cuts). -/
import Derived.Test.YtckmkhcahnijmaaGreatDoorD
import Derived.Test.YtckmkhcahnijmaaGreatDoorL
namespace Go.Proofs.YtckmkhcahnijmaaGreatDoor
open Go.RowKit
set_option linter.unusedVariables false
set_option linter.unusedSimpArgs false

def vstrs (l : List (List UInt8)) : List Value := l.map fun x => .string (bs x)
/-- The pieces between slashes, as the reference cuts them. -/
def cutsG : List UInt8 → List (List UInt8) → List UInt8 → List (List UInt8)
  | [], i, l => i ++ [l]
  | [c], i, l => if c = 47 then (i ++ [l]) ++ [[]] else i ++ [l ++ [c]]
  | c :: d :: r, i, l => if c = 47 then cutsG (d :: r) (i ++ [l]) [] else if c = 92 then cutsG r i (l ++ [d]) else cutsG (d :: r) i (l ++ [c])
theorem Tryz.info9 : (Tryz.prog.info? 9).map (fun i => (i.zero, i.size, i.bytes)) = some (some (.string ByteArray.empty), 1, 16) := by kernel_rfl

theorem vstrs_len (l : List (List UInt8)) : (vstrs l).length = l.length := by simp [vstrs]
theorem vstrs_set (ini : List (List UInt8)) (lst : List UInt8) (u : ByteArray) (c : UInt8) (hu : u.data.toList = [c]) :
    (vstrs (ini ++ [lst])).set ini.length (.string (bs lst ++ u)) = vstrs (ini ++ [lst ++ [c]]) := by
  have hb : bs lst ++ u = bs (lst ++ [c]) := ba_ext (by rw [app_L, hu, bs_L, bs_L])
  simp [vstrs, hb]
theorem cutsG_slash {c r i l} (h : (c == 47) = true) : cutsG (c :: r) i l = cutsG r (i ++ [l]) [] := by
  have h : c = 47 := by simpa using h
  cases r with
  | nil => simp [cutsG, h]
  | cons d r => rw [cutsG, if_pos h]
theorem cutsG_plain {c r i l} (h : (c == 47) = false) (h2 : (c == 92) = false) : cutsG (c :: r) i l = cutsG r i (l ++ [c]) := by
  have h : ¬ c = 47 := by simpa using h
  have h2 : ¬ c = 92 := by simpa using h2
  cases r with
  | nil => simp [cutsG, h]
  | cons d r => rw [cutsG, if_neg h, if_neg h2]
theorem cutsG_esc {c d r i l} (h : (c == 47) = false) (h2 : (c == 92) = true) : cutsG (c :: d :: r) i l = cutsG r i (l ++ [d]) := by
  rw [cutsG, if_neg (by simpa using h), if_pos (by simpa using h2)]
theorem cutsG_last {c i l} (h : (c == 47) = false) : cutsG [c] i l = cutsG [] i (l ++ [c]) := by
  have h : ¬ c = 47 := by simpa using h
  simp [cutsG, h]

set_option maxRecDepth 100000 in
set_option maxHeartbeats 400000 in
theorem cuts_any (s : ByteArray) (w : World) (hs : s.size ≤ 65536) :
    Calls Tryz.prog 53 #[.string s] w fun e w' => ∃ v, e = .returned v ∧ w'.ownsRow w.heap.size 9 1 v (cutsG s.data.toList [] []).length (vstrs (cutsG s.data.toList [] [])) ∧ Below w.heap.size w w' := by
  obtain ⟨i0, hi, hz0, hz1, hz2⟩ := info_parts Tryz.info9
  go_enter Tryz.func53, Tryz.ntmps53
  go_wp2
  go_loopw [3, 4] (fun o i wr => ∃ (k : Nat) (ini : List (List UInt8)) (lst : List UInt8) (g cap : Nat), k ≤ s.size ∧ i = .int .i64 k ∧ ini.length + lst.length ≤ k ∧ o = .slice (some ⟨g, 0, none⟩) (ini.length + 1) cap ∧
      wr.ownsRow w.heap.size 9 1 (.slice (some ⟨g, 0, none⟩) (ini.length + 1) cap) (ini.length + 1) (vstrs (ini ++ [lst])) ∧ cutsG s.data.toList [] [] = cutsG (s.data.toList.drop k) ini lst ∧ Below w.heap.size w wr) (fun _ i _ => s.size - (intOf i).toNat)
  case atStart =>
    refine ⟨0, [], [], w.heap.size, 1, by omega, rfl, by simp, rfl, ?_, rfl, (Below.refl _ _).alloc (Nat.le_refl _) _⟩
    exact World.ownsRow_lit w #[.string ⟨#[]⟩] 1 (Nat.le_refl _) (by unfold maxLen; omega) rfl
  case round =>
    obtain ⟨k, ini, lst, g, cap, hk, rfl, hl, rfl, hown, hr, hb⟩ := hrel
    have HR := Lib.hid hr; clear hr
    have hc : wr.cell? ⟨g, ini.length, none⟩ = some (.string (bs lst)) := by
      rw [hown.cellAt _ (by omega)]; simp [vstrs]
    have hf : wr.frozen? ⟨g, ini.length, none⟩ = false := hown.frozenAt _
    have hg := (hown.lt g rfl).1
    by_cases hlt : k < s.size
    · have hb1 : ((s[k].toNat : Int) == 47) = (s[k] == 47) := beq_byte _ 47
      have hb2 : ((s[k].toNat : Int) == 92) = (s[k] == 92) := beq_byte _ 92
      have HD := Lib.hid (drop_cons s k hlt)
      cases h1 : s[k] == 47
      · have HC : Hid (∃ (kk : Nat) (hkk : kk < s.size), k ≤ kk ∧ kk ≤ k + 1 ∧ cutsG (s.data.toList.drop k) ini lst = cutsG (s.data.toList.drop (kk + 1)) ini (lst ++ [s[kk]]) ∧ (kk = k ↔ ((s[k] == 92) = false ∨ ¬ k + 1 < s.size))) := Lib.hid (by
          cases h2 : s[k] == 92
          · exact ⟨k, hlt, by omega, by omega, by rw [HD.out, cutsG_plain h1 h2], by simp⟩
          · by_cases h3 : k + 1 < s.size
            · exact ⟨k + 1, h3, by omega, by omega, by rw [HD.out, drop_cons s (k + 1) h3, cutsG_esc h1 h2], by simp; omega⟩
            · refine ⟨k, hlt, by omega, by omega, ?_, by simp [h3]⟩
              rw [HD.out, List.drop_of_length_le (by rw [L_len]; omega), cutsG_last h1])
        obtain ⟨kk, hkk, q1, q2, q3, q4⟩ := HC.out
        have Q3 := Lib.hid q3; clear q3
        have Q4 := Lib.hid q4; clear q4
        by_cases h3 : (s[k] == 92) = true ∧ k + 1 < s.size
        · obtain ⟨h2, h4⟩ := h3
          have ek : kk = k + 1 := by
            rcases Nat.lt_or_ge k kk with h | h
            · omega
            · rcases Q4.out.mp (by omega) with h' | h'
              · rw [h2] at h'; cases h'
              · exact absurd h4 h'
          subst ek
          have hz : (s.extract (k + 1) ((k + 1) + 1)).size = 1 := by simp; omega
          have hbz : (bs lst).size = lst.length := rfl
          have w1 : IntKind.i64.wrap (ini.length : Int) = ini.length := IntWalk.i64_in _ (by omega)
          have w2 : IntKind.i64.wrap (((k : Int) + 1) + 1) = ((k : Int) + 1) + 1 := IntWalk.i64_in _ (by omega)
          have w3 : (((k : Int) + 1) + 1).toNat = (k + 1) + 1 := by omega
          have w4 : ((k : Int) + 1) ≤ ((k : Int) + 1) + 1 := by omega
          have w5 : ((k : Int) + 1) + 1 ≤ s.size := by omega
          have w6 : (0 : Int) ≤ (k : Int) + 1 := by omega
          have w7 : (0 : Int) ≤ ((k : Int) + 1) + 1 := by omega
          have w8 : (ini.length : Int) < (ini.length : Int) + 1 := by omega
          have w9 : ¬ 9223372036854775807 < lst.length + 1 := by omega
          go_upto_region 9 with fail
          refine wp_region_still_tail 17 (by kernel_rfl) (by kernel_rfl) ?_
          simp only [List.take_succ_cons, List.take_zero, List.drop_succ_cons, List.drop_zero]
          repeat still_step
          refine wpStill_nil ?_
          clear w1 w2 w3
          go_wp2
          go_roundw
          case rel =>
            refine ⟨(k + 1) + 1, ini, lst ++ [s[(k + 1)]], g, cap, by omega, by go_num, by simp; omega, rfl, ?_, by rw [HR.out, Q3.out], (hb.setCell hg _).drew⟩
            rw [← vstrs_set ini lst _ _ (one_L s (k + 1) hkk)]
            exact (hown.stored _ _).1
          case measure => simp [intOf]; omega
        · have ek : kk = k := Q4.out.mpr (by rcases h : s[k] == 92 with _ | _; exact .inl rfl; exact .inr (fun q => h3 ⟨h, q⟩))
          subst ek
          have hz : (s.extract kk (kk + 1)).size = 1 := by simp; omega
          have hbz : (bs lst).size = lst.length := rfl
          have w1 : IntKind.i64.wrap (ini.length : Int) = ini.length := IntWalk.i64_in _ (by omega)
          have w2 : IntKind.i64.wrap ((kk : Int) + 1) = (kk : Int) + 1 := IntWalk.i64_in _ (by omega)
          have w3 : ((kk : Int) + 1).toNat = kk + 1 := by omega
          have w4 : (kk : Int) ≤ (kk : Int) + 1 := by omega
          have w5 : (kk : Int) + 1 ≤ s.size := by omega
          have w6 : (0 : Int) ≤ kk := by omega
          have w7 : (0 : Int) ≤ (kk : Int) + 1 := by omega
          have w8 : (ini.length : Int) < (ini.length : Int) + 1 := by omega
          have w9 : ¬ 9223372036854775807 < lst.length + 1 := by omega
          have h5 : (s[kk] == 92) = false ∨ (s[kk] == 92) = true ∧ ¬ kk + 1 < s.size := by
            cases h2 : s[kk] == 92
            · exact .inl rfl
            · exact .inr ⟨rfl, fun q => h3 ⟨h2, q⟩⟩
          clear h3
          rcases h5 with h2 | ⟨h2, h6⟩
          all_goals
            go_upto_region 9 with fail
            refine wp_region_still_tail 17 (by kernel_rfl) (by kernel_rfl) ?_
            simp only [List.take_succ_cons, List.take_zero, List.drop_succ_cons, List.drop_zero]
            repeat still_step
            refine wpStill_nil ?_
            clear w1 w2 w3
            go_wp2
            go_roundw
            case rel =>
              refine ⟨kk + 1, ini, lst ++ [s[kk]], g, cap, by omega, by go_num, by simp; omega, rfl, ?_, by rw [HR.out, Q3.out], (hb.setCell hg _).drew⟩
              rw [← vstrs_set ini lst _ _ (one_L s kk hkk)]
              exact (hown.stored _ _).1
            case measure => simp [intOf]; omega
      · go_wp2_with (at_builtin; go_must (refine app1 _ rfl (.tmp 16) (.tmp 17) 49 rfl w.heap.size 9 i0 _ 16 Tryz.underlying49 hi hz0 hz1 hz2 rfl _ _ _ (by rfl) hown _ rfl (by rfl) (by omega) (by omega) hb.size ?_); intro g' cap' w1 hown1 hb1 _)
        go_roundw
        case rel =>
          refine ⟨k + 1, ini ++ [lst], [], g', cap', by omega, by go_num, by simp; omega, by simp, ?_, by rw [HR.out, HD.out, cutsG_slash h1], hb1 _ hb⟩
          have e : vstrs (ini ++ [lst] ++ [[]]) = vstrs (ini ++ [lst]) ++ [.string ⟨#[]⟩] := by simp [vstrs]; rfl
          rw [e, show (ini ++ [lst]).length + 1 = ini.length + 1 + 1 by simp]
          exact hown1
        case measure => simp [intOf]; omega
    · have HK := Lib.hid (show k = s.size by omega)
      go_wp2
      go_ret
      refine ⟨_, rfl, ?_, hb⟩
      rw [HR.out, List.drop_of_length_le (by rw [L_len]; omega)]
      simpa [cutsG] using hown
end Go.Proofs.YtckmkhcahnijmaaGreatDoor
