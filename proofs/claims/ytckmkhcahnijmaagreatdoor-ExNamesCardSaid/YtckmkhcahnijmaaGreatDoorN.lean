/- The walks of the program: num.Digits, num.Text. -/
import Derived.Test.YtckmkhcahnijmaaGreatDoorM
namespace Go.Proofs.YtckmkhcahnijmaaGreatDoor
open Go.RowKit
set_option linter.unusedVariables false
set_option linter.unusedSimpArgs false

theorem pdigV_dig {c : UInt8} (h : dig c = true) : pdigV c = (c.toNat : Int) - 48 ∧ 48 ≤ c.toNat ∧ c.toNat ≤ 57 := by
  have := dig_range h
  rw [pdigV, if_pos h]; omega
set_option maxRecDepth 100000 in
set_option maxHeartbeats 1000000 in
theorem pdigits_any (s : ByteArray) (most : Nat) (w : World) (hs : s.size ≤ 65536) (hm : most ≤ 2147483647) :
    Calls Tryz.prog 50 #[.string s, .int .i64 most] w fun e w' => e = .returned (.tuple #[.int .i64 (valD most 0 s.data.toList), .int .i64 (cnt dig s.data.toList)]) ∧ w = w' := by
  go_enter Tryz.func50, Tryz.ntmps50
  go_wp2
  go_loop [6, 15] (fun n i => ∃ k v : Nat, k ≤ s.size ∧ i = .int .i64 k ∧ n = .int .i64 v ∧ v ≤ most ∧ valD most 0 s.data.toList = valD most v (s.data.toList.drop k) ∧ cnt dig s.data.toList = k + cnt dig (s.data.toList.drop k)) (fun _ i => s.size - (intOf i).toNat)
  case atStart => exact ⟨0, 0, by omega, rfl, rfl, by omega, by simp, by simp⟩
  case round =>
    obtain ⟨k, v, hk, rfl, rfl, hv, hr, hr2⟩ := hrel
    have HR := Lib.hid hr; clear hr
    have HR2 := Lib.hid hr2; clear hr2
    by_cases hlt : k < s.size
    · have HD := Lib.hid (drop_cons s k hlt)
      have hbl : s[k].toNat < 256 := s[k].toNat_lt
      cases hd : dig s[k]
      · go_wp2_with (go_at_call 63; refine (pdigit_any _ _).mono ?_; rintro e w' ⟨rfl, rfl⟩)
        go_ret2
        refine ⟨ret_2 (int_eq ?_) (int_eq ?_), rfl⟩
        · rw [HR.out, HD.out, valD_stop hd]
        · rw [HR2.out, HD.out, cnt_stop hd, Nat.add_zero]
      · obtain ⟨hp, hdr⟩ := pdigV_dig hd
        have hp0 : 0 ≤ pdigV s[k] := by omega
        have hp9 : pdigV s[k] ≤ 9 := by omega
        have HP := Lib.hid hp; clear hp
        go_wp2_with (go_at_call 63; refine (pdigit_any _ _).mono ?_; rintro e w' ⟨rfl, rfl⟩)
        go_round
        case rel =>
          have hp := HP.out
          refine ⟨k + 1, min (v * 10 + (s[k].toNat - 48)) most, by omega, by go_num, int_eq ?_, by omega, by rw [HR.out, HD.out, valD_step hd], by rw [HR2.out, HD.out, cnt_step hd]; omega⟩
          go_light
          split <;> omega
        case measure => simp [intOf]; omega
    · have HK := Lib.hid (show s.data.toList.drop k = [] from List.drop_of_length_le (by rw [L_len]; omega))
      go_wp2
      go_ret2
      have hks : k = s.size := by omega
      refine ⟨ret_2 (int_eq ?_) (int_eq ?_), rfl⟩
      · rw [HR.out, HK.out]; rfl
      · rw [HR2.out, HK.out, hks]; rfl

def dg (k : Nat) : UInt8 := UInt8.ofNat (48 + k % 10)
theorem numB_step (k : Nat) : numB k = (if k / 10 = 0 then [] else numB (k / 10)) ++ [dg k] := by
  unfold dg
  by_cases h : k / 10 = 0
  · rw [if_pos h, numB]
    by_cases h0 : k = 0
    · subst h0; rfl
    · rw [if_neg h0, dgs_pos h0, h, dgs_zero]
  · have h0 : k ≠ 0 := by omega
    rw [if_neg h, numB, if_neg h0, dgs_pos h0, numB, if_neg h]
theorem slice86 (w : World) (B t : Nat) (ht : t < 20) : (Instr.sliceAt 86 (.pointer (some ⟨B, 0, none⟩)) (some (.int .i64 t)) none none).run Tryz.prog w = .ok (.slice (some ⟨B, t, none⟩) (20 - t) (20 - t)) w := by
  have ha : Tryz.prog.underlying 86 = some (.array (Tryz.prog.arrayLen 86) (Tryz.prog.elem 86)) := by kernel_rfl
  have hl : Tryz.prog.arrayLen 86 = 20 := by kernel_rfl
  have he : Tryz.prog.elem 86 = 5 := by kernel_rfl
  have z5 := Tryz.sizeOf5
  rw [run_sliceAt_array_l (P := Tryz.prog) w 86 ⟨B, 0, none⟩ ha .i64 t (by omega) (by rw [hl]; omega), he, hl]
  rw [z5]
  simp [slicedAt, go_sem]
  omega
def arrB (pre : List UInt8) (ds : List UInt8) : Array Value := ((pre ++ ds).map fun c => Value.int .u8 c.toNat).toArray
theorem arr_zero : (#[.int .u8 0, .int .u8 0, .int .u8 0, .int .u8 0, .int .u8 0, .int .u8 0, .int .u8 0, .int .u8 0, .int .u8 0, .int .u8 0, .int .u8 0, .int .u8 0, .int .u8 0, .int .u8 0, .int .u8 0, .int .u8 0, .int .u8 0, .int .u8 0, .int .u8 0, .int .u8 0] : Array Value) = arrB (List.replicate 20 0) [] := rfl
theorem arrB_get (pre ds : List UInt8) (i : Nat) (h : i < ds.length) : (arrB pre ds)[pre.length + i]? = some (.int .u8 (ds[i]).toNat) := by
  simp [arrB, h]
theorem arrB_set (pre ds : List UInt8) (t : Nat) (c : UInt8) (h : pre.length = t + 1) : (arrB pre ds).setIfInBounds t (.int .u8 c.toNat) = arrB (pre.take t) (c :: ds) := by
  apply Array.toList_inj.mp
  simp only [arrB, Array.toList_setIfInBounds, List.toList_toArray, ← List.map_set]
  congr 1
  rw [List.set_append_left _ _ (by omega), List.set_eq_take_append_cons_drop, if_pos (by omega), List.drop_of_length_le (by omega)]
  simp
/-- The digits at the array's end, as a text. -/
theorem conv86 (w : World) (pre ds : List UInt8) (t : Nat) (hp : pre.length = t) (hd : t + ds.length = 20) :
    (convert 67 9 (.slice (some ⟨w.heap.size, t, none⟩) (20 - t) (20 - t))).run Tryz.prog (w.alloc (.cells (arrB pre ds) 86)) = .ok (.string (bs ds)) (w.alloc (.cells (arrB pre ds) 86)) := by
  have e : strOfNums (ds.map fun c => (c.toNat : Int)) = bs ds := ba_ext (by
    rw [strOfNums_data, bs_L, List.map_map]
    exact (List.map_congr_left (fun c _ => by simp)).trans (List.map_id _))
  rw [run_convert_bytes_arg _ 67 5 Tryz.underlying67 Tryz.underlying5 w.heap.size t (20 - t) (20 - t) (ds.map fun c => (c.toNat : Int)) (by simp; omega) (fun i hi => by
    have hi' : i < ds.length := by omega
    rw [cell_of_row _ _ _ _ _ _ (heap_alloc_new w _), ← hp, arrB_get pre ds i hi']
    simp [hi']) 9 Tryz.underlying9, e]
theorem dig_val (k : Nat) : ((dg k).toNat : Int) = 48 + (k : Int) % 10 := by
  unfold dg
  have : (UInt8.ofNat (48 + k % 10)).toNat = 48 + k % 10 := UInt8.toNat_ofNat_of_lt' (by simp [UInt8.size]; omega)
  omega
set_option maxRecDepth 100000 in
set_option maxHeartbeats 1000000 in
theorem ptext_any (n : Nat) (w : World) (hn : n ≤ 2147483647) :
    Calls Tryz.prog 44 #[.int .i64 n] w fun e w' => e = .returned (.string (bs (numB n))) ∧ Below w.heap.size w w' := by
  go_enter Tryz.func44, Tryz.ntmps44
  go_wp2
  go_loopw [4, 5] (fun a m wr => ∃ (k t : Nat) (pre ds : List UInt8), pre.length = t + 1 ∧ t + 1 + ds.length = 20 ∧ a = .int .i64 (t + 1) ∧ m = .int .u64 k ∧ k < 10 ^ (t + 1) ∧ k ≤ n ∧ numB n = numB k ++ ds ∧ wr = w.alloc (.cells (arrB pre ds) 86)) (fun _ m _ => match m with | .int _ z => z.toNat | _ => 0)
  case atStart => exact ⟨n, 19, List.replicate 20 0, [], rfl, rfl, rfl, rfl, by omega, by omega, by simp, by rw [← arr_zero]⟩
  case round =>
    obtain ⟨k, t, pre, ds, hp, ht, rfl, rfl, hk, hkn, hq, rfl⟩ := hrel
    have HQ := Lib.hid hq; clear hq
    have h0 : 0 ≤ (k : Int) % 10 := by omega
    have h1 : (k : Int) % 10 < 10 := by omega
    have hsz : (arrB pre ds).size = 20 := by simp [arrB]; omega
    obtain ⟨u, hu⟩ : ∃ u, (arrB pre ds)[t]? = some u := ⟨_, Array.getElem?_eq_getElem (by rw [hsz]; omega)⟩
    have hcell : (w.alloc (.cells (arrB pre ds) 86)).cell? ⟨w.heap.size, t, none⟩ = some u := by rw [← hu]; exact cell_of_row _ _ _ _ _ _ (heap_alloc_new w _)
    have hset : (arrB pre ds).setIfInBounds t (Value.int .u8 (48 + (k : Int) % 10)) = arrB (pre.take t) (dg k :: ds) := by rw [← dig_val]; exact arrB_set pre ds t _ hp
    have hsl := fun W => slice86 W w.heap.size t (by omega)
    have hcv := conv86 w (pre.take t) (dg k :: ds) t (by simp; omega) (by simp; omega)
    have hpl : (pre.take t).length = t := by simp; omega
    have HPL := Lib.hid hpl
    clear hsz hp hpl
    by_cases h10 : k / 10 = 0
    · have H10 := Lib.hid h10
      have e10 : ((k : Int) / 10 == 0) = true := by rw [beq_iff_eq]; omega
      clear h10
      go_wp2
      go_ret
      refine ⟨ret_str ?_, below_box _ _⟩
      rw [HQ.out, numB_step, if_pos H10.out]
      simp
    · have H10 := Lib.hid h10
      have e10 : ((k : Int) / 10 == 0) = false := by rw [beq_eq_false_iff_ne]; omega
      have ht0 : 0 < t := by
        rcases Nat.eq_zero_or_pos t with h | h
        · subst h; simp at hk; omega
        · exact h
      obtain ⟨t', rfl⟩ : ∃ t', t = t' + 1 := ⟨t - 1, by omega⟩
      have hk2 : k / 10 < 10 ^ (t' + 1) := by
        rw [Nat.pow_succ] at hk; omega
      clear h10
      go_wp2
      go_roundw
      case rel =>
        refine ⟨k / 10, t', _, _, HPL.out, by simp; omega, by go_num, by first | rfl | exact congrArg _ (by omega), hk2, by omega, ?_, rfl⟩
        rw [HQ.out, numB_step k, if_neg H10.out]; simp
      case measure =>
        have := H10.out
        simp; omega
end Go.Proofs.YtckmkhcahnijmaaGreatDoor
