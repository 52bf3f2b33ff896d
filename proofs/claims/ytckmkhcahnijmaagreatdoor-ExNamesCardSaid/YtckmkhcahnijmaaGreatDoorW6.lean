/- The walk of the statement ExNames. -/
import Derived.Test.YtckmkhcahnijmaaGreatDoorW5
namespace Go.Proofs.YtckmkhcahnijmaaGreatDoor
open Go.RowKit
set_option linter.unusedVariables false
set_option linter.unusedSimpArgs false

theorem RB.setB {w : World} {A : Option Addr} {l : List (Int × Bool)} (h : RB w A l) {b o : Nat} {v : Value} (hb : ∀ g off, l ≠ [] → A = some ⟨g, off, none⟩ → g < b) : RB (w.setCell ⟨b, o, none⟩ v) A l := by
  cases l with
  | nil => exact RB.nil _ _
  | cons a l => exact h.set (fun g off e => Nat.ne_of_lt (hb g off (by simp) e))
theorem RB.low {w : World} {A : Option Addr} {l : List (Int × Bool)} (h : RB w A l) : ∀ g off, l ≠ [] → A = some ⟨g, off, none⟩ → g < w.heap.size := fun g off hn he => by
  cases l with
  | nil => exact absurd rfl hn
  | cons b l =>
    obtain ⟨b0, off0, e, h3, _⟩ := h 0 (by simp)
    have := World.block_lt_of_cell? _ _ h3
    rw [e] at he; simp at he; simp at this; omega


set_option maxRecDepth 100000 in
set_option maxHeartbeats 4000000 in
theorem names1 (s : ByteArray) (A : Option Addr) (c : Nat) (x : Ln) (n : Nat) (m : Int) (w : World) (hm : w.cell? ⟨0, 0, none⟩ = some (.int .i64 m)) (hl : x.bys.length ≤ c) (hr : RB w A x.bys) (hn : n < 256) (hR : rRight (shortL x) = false) :
    Calls Tryz.prog 6 #[.string s, vL A c x, .int .u8 n] w fun e w' => e = .returned (.bool true) ∧ Below w.heap.size w w' := by
  have hsx := fun W => short_any A c x W hl
  have hrx : RB w A (shortL x).bys := hr.take 6
  have HFR := Lib.hid hrx.low
  have HRX := Lib.hid hrx; clear hrx hr
  have HM := Lib.hid hm
  have HM0 := Lib.hid hm; clear hm
  obtain ⟨x1, x2, x3, x4⟩ := short_small x
  have hRX := fun W h => rright_any A c (shortL x) W (by omega) h (by omega) (by omega) (by omega)
  have hAW := fun W h => awake_any m W h
  have hct : ∀ W, Calls Tryz.prog 17 #[.string s, .int .i64 40] W fun e w' => e = .returned (.string (cutB s 40)) ∧ W = w' := fun W => cut_any s 40 W (by omega)
  have hF1 := fun W => full_any (cutB s 40) W (by have := cutB_size s 40; omega)
  have hF2 := fun W => rfull_any (cutB s 40) W (by have := cutB_size s 40; omega)
  generalize cutB s 40 = s4 at *
  generalize rFull s4.data.toList = rf at *
  obtain ⟨rfw, rfb⟩ := rf
  simp only at hF1 hF2
  rw [hR] at hRX
  clear hR x1 x2 x3 x4
  generalize hX : shortL x = sx at *
  clear hX
  obtain ⟨nm, n, l, ⟨col, op, arg, nt⟩, has, whole, each, pat, wth⟩ := x
  obtain ⟨vnm, vn, vl, ⟨vcol, vop, varg, vnt⟩, vhas, vwhole, veach, vpat, vwth⟩ := sx
  have hbx : BoxW w.heap.size A c ⟨nm, n, l, ⟨col, op, arg, nt⟩, has, whole, each, pat, wth⟩ (w.alloc (.cells #[.int .i64 nm, .int .i64 n, .slice A l.length c, .int .i64 col, .int .i64 op, .string arg, .bool nt, .bool has, .bool whole, .bool each, .string pat, .string wth] 26)) := by
    unfold BoxW Box; simp [go_sem]
  have HBX := Lib.hid hbx; clear hbx
  unfold vL at *
  simp only at *
  go_enter Tryz.func6, Tryz.ntmps6
  go_upto_region 1 with fail
  obtain ⟨W, hWe⟩ : ∃ W, W = w.alloc (.cells #[.int .i64 nm, .int .i64 n, .slice A l.length c, .int .i64 col, .int .i64 op, .string arg, .bool nt, .bool has, .bool whole, .bool each, .string pat, .string wth] 26) := ⟨_, rfl⟩
  have hb := below_box w (.cells #[.int .i64 nm, .int .i64 n, .slice A l.length c, .int .i64 col, .int .i64 op, .string arg, .bool nt, .bool has, .bool whole, .bool each, .string pat, .string wth] 26)
  rw [← hWe] at HBX hb
  have HBW := Lib.hid hb
  have HRX1 := Lib.hid (HRX.out.keep hb)
  have HMC := Lib.hid (keep_cell hb HM.out)
  rw [← hWe]
  clear hWe hb HRX HM
  go_upto_region 6 with (first | (go_at_call 17; (with_reducible refine (hct _).mono ?_); rintro e w2 ⟨rfl, rfl⟩) | (go_at_call 19; (with_reducible refine (hF1 _).mono ?_); rintro e w2 ⟨rfl, hb⟩; have HBW := Lib.hid (keep_below HBW.out hb HBW.out.size); have HMC := Lib.hid (keep_cell hb HMC.out); have HRX1 := Lib.hid (HRX1.out.keep hb); have HBX := Lib.hid (HBX.out.keep hb)) | (go_at_call 20; (with_reducible refine (hF2 _).mono ?_); rintro e w2 ⟨rfl, hb⟩; have HBW := Lib.hid (keep_below HBW.out hb HBW.out.size); have HMC := Lib.hid (keep_cell hb HMC.out); have HRX1 := Lib.hid (HRX1.out.keep hb); have HBX := Lib.hid (HBX.out.keep hb)))
  go_cut [] (fun wx => Box w.heap.size 26 A c ⟨vnm, vn, vl, ⟨vcol, vop, varg, vnt⟩, vhas, vwhole, veach, vpat, vwth⟩ wx ∧ RB wx A vl ∧ wx.cell? ⟨0, 0, none⟩ = some (.int .i64 m) ∧ Below w.heap.size w wx)
  case first =>
    obtain ⟨⟨a0, a1, a2, a3, a4, a5, a6, a7, a8, a9, a10, a11⟩, fa⟩ := HBX.out
    simp only at a0 a1 a2 a3 a4 a5 a6 a7 a8 a9 a10 a11
    go_wp2_with (go_at_call 7; (with_reducible refine (hsx _).mono ?_); rintro e w3 ⟨rfl, hb⟩; have HBW := Lib.hid (keep_below HBW.out hb HBW.out.size); have HMC := Lib.hid (keep_cell hb HMC.out); have HRX1 := Lib.hid (HRX1.out.keep hb); clear a0 a1 a2 a3 a4 a5 a6 a7 a8 a9 a10 a11 fa; obtain ⟨⟨a0, a1, a2, a3, a4, a5, a6, a7, a8, a9, a10, a11⟩, fa⟩ := HBX.out.keep hb; simp only at a0 a1 a2 a3 a4 a5 a6 a7 a8 a9 a10 a11; clear hb)
    go_meet
    have hb0 := World.block_lt_of_cell? _ _ HM0.out
    simp only at hb0
    refine ⟨?_, ?_, ?_, ?_⟩
    · unfold Box; simp [go_sem, a0, a1, a2, a3, a4, a5, a6, a7, a8, a9, a10, a11, fa]
    · (iterate 12 (refine RB.setB ?_ HFR.out))
      exact HRX1.out
    · (iterate 12 (rw [cell_set_ne _ _ _ _ (.inl (by simp only; omega))]))
      exact HMC.out
    · (iterate 12 (refine below_set ?_ (by omega)))
      exact HBW.out
  case rest =>
    obtain ⟨hx, hr1, hm1, hbw⟩ := hcut
    clear hsx HBX HBW HRX1 HMC hF1 hF2 hct
    have HX := Lib.hid hx; have HBW := Lib.hid hbw; have HRX1 := Lib.hid hr1; have HMC := Lib.hid hm1
    clear hbw hx hr1 hm1
    obtain ⟨a0, a1, a2, a3, a4, a5, a6, a7, a8, a9, a10, a11⟩ := HX.out
    simp only at a0 a1 a2 a3 a4 a5 a6 a7 a8 a9 a10 a11
    go_upto_region 7 with fail
    go_cut [49] (fun v wx => v = .bool true ∧ wx.cell? ⟨0, 0, none⟩ = some (.int .i64 m) ∧ Below w.heap.size w wx)
    case first =>
      have q3 := HBW.out; have m3 := HMC.out; have r3 := HRX1.out
      clear hAW
      generalize wc = W3 at *
      first | (go_region_with (first | (go_at_call 8; (with_reducible refine (hRX _ ?hr).mono ?_); (case hr => exact r3); rintro e w2 ⟨rfl, hb⟩; replace hb := undrew hb; have q4 := keep_below q3 hb q3.size; have m4 := keep_cell hb m3))) | fail
      all_goals
        go_wp2_with fail
        go_meet
        exact ⟨rfl, m4, q4⟩
    case rest =>
      obtain ⟨rfl, hm2, hbw⟩ := hcut
      clear HBW HMC
      have HBW := Lib.hid hbw; have HMC := Lib.hid hm2; clear hbw hm2
      go_wp2_with (first | (go_at_call 13; (with_reducible refine (hAW _ ?hr).mono ?_); (case hr => exact HMC.out); rintro e w2 ⟨rfl, hb⟩))
      go_ret
      exact ⟨rfl, keep_below HBW.out hb HBW.out.size⟩

set_option maxRecDepth 100000 in
set_option maxHeartbeats 4000000 in
theorem names2 (s : ByteArray) (A : Option Addr) (c : Nat) (x : Ln) (n : Nat) (m : Int) (w : World) (hm : w.cell? ⟨0, 0, none⟩ = some (.int .i64 m)) (hl : x.bys.length ≤ c) (hr : RB w A x.bys) (hn : n < 256) (hR : rRight (shortL x) = true) (k : Nat) (hk : k < 14) (hnm : (shortL x).nm = k) (hw : wd k = []) :
    Calls Tryz.prog 6 #[.string s, vL A c x, .int .u8 n] w fun e w' => e = .returned (.bool true) ∧ Below w.heap.size w w' := by
  have hsx := fun W => short_any A c x W hl
  have hrx : RB w A (shortL x).bys := hr.take 6
  have HFR := Lib.hid hrx.low
  have HRX := Lib.hid hrx; clear hrx hr
  have HM := Lib.hid hm
  have HM0 := Lib.hid hm; clear hm
  obtain ⟨x1, x2, x3, x4⟩ := short_small x
  have hRX := fun W h => rright_any A c (shortL x) W (by omega) h (by omega) (by omega) (by omega)
  have hAW := fun W h => awake_any m W h
  have hct : ∀ W, Calls Tryz.prog 17 #[.string s, .int .i64 40] W fun e w' => e = .returned (.string (cutB s 40)) ∧ W = w' := fun W => cut_any s 40 W (by omega)
  have hF1 := fun W => full_any (cutB s 40) W (by have := cutB_size s 40; omega)
  have hF2 := fun W => rfull_any (cutB s 40) W (by have := cutB_size s 40; omega)
  generalize cutB s 40 = s4 at *
  generalize rFull s4.data.toList = rf at *
  obtain ⟨rfw, rfb⟩ := rf
  simp only at hF1 hF2
  rw [hR] at hRX
  clear hR x1 x2 x3 x4
  have hwd := fun W => words_at k hk W
  rw [hw] at hwd
  have z1 : (bs []).toList.isEmpty = true := by rw [toList_L, bs_L]; rfl
  have z2 : (bs []).toList = [] := by rw [toList_L, bs_L]
  clear hw
  have hk2 : (k : Int) < 14 := by omega
  generalize hX : shortL x = sx at *
  clear hX
  obtain ⟨nm, n, l, ⟨col, op, arg, nt⟩, has, whole, each, pat, wth⟩ := x
  obtain ⟨vnm, vn, vl, ⟨vcol, vop, varg, vnt⟩, vhas, vwhole, veach, vpat, vwth⟩ := sx
  have hbx : BoxW w.heap.size A c ⟨nm, n, l, ⟨col, op, arg, nt⟩, has, whole, each, pat, wth⟩ (w.alloc (.cells #[.int .i64 nm, .int .i64 n, .slice A l.length c, .int .i64 col, .int .i64 op, .string arg, .bool nt, .bool has, .bool whole, .bool each, .string pat, .string wth] 26)) := by
    unfold BoxW Box; simp [go_sem]
  have HBX := Lib.hid hbx; clear hbx
  unfold vL at *
  simp only at *
  have HNM := Lib.hid hnm; clear hnm
  go_enter Tryz.func6, Tryz.ntmps6
  go_upto_region 1 with fail
  obtain ⟨W, hWe⟩ : ∃ W, W = w.alloc (.cells #[.int .i64 nm, .int .i64 n, .slice A l.length c, .int .i64 col, .int .i64 op, .string arg, .bool nt, .bool has, .bool whole, .bool each, .string pat, .string wth] 26) := ⟨_, rfl⟩
  have hb := below_box w (.cells #[.int .i64 nm, .int .i64 n, .slice A l.length c, .int .i64 col, .int .i64 op, .string arg, .bool nt, .bool has, .bool whole, .bool each, .string pat, .string wth] 26)
  rw [← hWe] at HBX hb
  have HBW := Lib.hid hb
  have HRX1 := Lib.hid (HRX.out.keep hb)
  have HMC := Lib.hid (keep_cell hb HM.out)
  rw [← hWe]
  clear hWe hb HRX HM
  go_upto_region 6 with (first | (go_at_call 17; (with_reducible refine (hct _).mono ?_); rintro e w2 ⟨rfl, rfl⟩) | (go_at_call 19; (with_reducible refine (hF1 _).mono ?_); rintro e w2 ⟨rfl, hb⟩; have HBW := Lib.hid (keep_below HBW.out hb HBW.out.size); have HMC := Lib.hid (keep_cell hb HMC.out); have HRX1 := Lib.hid (HRX1.out.keep hb); have HBX := Lib.hid (HBX.out.keep hb)) | (go_at_call 20; (with_reducible refine (hF2 _).mono ?_); rintro e w2 ⟨rfl, hb⟩; have HBW := Lib.hid (keep_below HBW.out hb HBW.out.size); have HMC := Lib.hid (keep_cell hb HMC.out); have HRX1 := Lib.hid (HRX1.out.keep hb); have HBX := Lib.hid (HBX.out.keep hb)))
  go_cut [] (fun wx => Box w.heap.size 26 A c ⟨vnm, vn, vl, ⟨vcol, vop, varg, vnt⟩, vhas, vwhole, veach, vpat, vwth⟩ wx ∧ RB wx A vl ∧ wx.cell? ⟨0, 0, none⟩ = some (.int .i64 m) ∧ Below w.heap.size w wx)
  case first =>
    obtain ⟨⟨a0, a1, a2, a3, a4, a5, a6, a7, a8, a9, a10, a11⟩, fa⟩ := HBX.out
    simp only at a0 a1 a2 a3 a4 a5 a6 a7 a8 a9 a10 a11
    go_wp2_with (go_at_call 7; (with_reducible refine (hsx _).mono ?_); rintro e w3 ⟨rfl, hb⟩; have HBW := Lib.hid (keep_below HBW.out hb HBW.out.size); have HMC := Lib.hid (keep_cell hb HMC.out); have HRX1 := Lib.hid (HRX1.out.keep hb); clear a0 a1 a2 a3 a4 a5 a6 a7 a8 a9 a10 a11 fa; obtain ⟨⟨a0, a1, a2, a3, a4, a5, a6, a7, a8, a9, a10, a11⟩, fa⟩ := HBX.out.keep hb; simp only at a0 a1 a2 a3 a4 a5 a6 a7 a8 a9 a10 a11; clear hb)
    go_meet
    have hb0 := World.block_lt_of_cell? _ _ HM0.out
    simp only at hb0
    refine ⟨?_, ?_, ?_, ?_⟩
    · unfold Box; simp [go_sem, a0, a1, a2, a3, a4, a5, a6, a7, a8, a9, a10, a11, fa]
    · (iterate 12 (refine RB.setB ?_ HFR.out))
      exact HRX1.out
    · (iterate 12 (rw [cell_set_ne _ _ _ _ (.inl (by simp only; omega))]))
      exact HMC.out
    · (iterate 12 (refine below_set ?_ (by omega)))
      exact HBW.out
  case rest =>
    obtain ⟨hx, hr1, hm1, hbw⟩ := hcut
    clear hsx HBX HBW HRX1 HMC hF1 hF2 hct
    have HX := Lib.hid hx; have HBW := Lib.hid hbw; have HRX1 := Lib.hid hr1; have HMC := Lib.hid hm1
    clear hbw hx hr1 hm1
    obtain ⟨a0, a1, a2, a3, a4, a5, a6, a7, a8, a9, a10, a11⟩ := HX.out
    simp only at a0 a1 a2 a3 a4 a5 a6 a7 a8 a9 a10 a11
    obtain rfl : vnm = (k : Int) := HNM.out
    go_upto_region 7 with fail
    go_cut [49] (fun v wx => v = .bool true ∧ wx.cell? ⟨0, 0, none⟩ = some (.int .i64 m) ∧ Below w.heap.size w wx)
    case first =>
      go_region_with (first | (go_at_call 8; (with_reducible refine (hRX _ ?hr).mono ?_); (case hr => exact HRX1.out); rintro e w2 ⟨rfl, hb⟩; replace hb := undrew hb; have HBW := Lib.hid (keep_below HBW.out hb HBW.out.size); have HMC := Lib.hid (keep_cell hb HMC.out); have HX := Lib.hid (HX.out.keep hb); clear a0 a1 a2 a3 a4 a5 a6 a7 a8 a9 a10 a11; obtain ⟨a0, a1, a2, a3, a4, a5, a6, a7, a8, a9, a10, a11⟩ := HX.out; simp only at a0 a1 a2 a3 a4 a5 a6 a7 a8 a9 a10 a11) | (go_at_call 21; (with_reducible refine (hwd _).mono ?_); rintro e w3 ⟨rfl, hcell, hb⟩; have HBW := Lib.hid (keep_below HBW.out hb HBW.out.size); have HMC := Lib.hid (keep_cell hb HMC.out); have HX := Lib.hid (HX.out.keep hb); clear a0 a1 a2 a3 a4 a5 a6 a7 a8 a9 a10 a11; obtain ⟨a0, a1, a2, a3, a4, a5, a6, a7, a8, a9, a10, a11⟩ := HX.out; simp only at a0 a1 a2 a3 a4 a5 a6 a7 a8 a9 a10 a11))
      all_goals
        go_wp2_with fail
        go_meet
        exact ⟨rfl, HMC.out, HBW.out⟩
    case rest =>
      obtain ⟨rfl, hm2, hbw⟩ := hcut
      clear HBW HMC
      have HBW := Lib.hid hbw; have HMC := Lib.hid hm2; clear hbw hm2
      go_wp2_with (first | (go_at_call 13; (with_reducible refine (hAW _ ?hr).mono ?_); (case hr => exact HMC.out); rintro e w2 ⟨rfl, hb⟩))
      go_ret
      exact ⟨rfl, keep_below HBW.out hb HBW.out.size⟩

set_option maxRecDepth 100000 in
set_option maxHeartbeats 4000000 in
theorem names3 (s : ByteArray) (A : Option Addr) (c : Nat) (x : Ln) (n : Nat) (m : Int) (w : World) (hm : w.cell? ⟨0, 0, none⟩ = some (.int .i64 m)) (hl : x.bys.length ≤ c) (hr : RB w A x.bys) (hn : n < 256) (hR : rRight (shortL x) = true) (k j : Nat) (hw : isWord k) (hnm : (shortL x).nm = k) (hj : n % (wd k).length = j) :
    Calls Tryz.prog 6 #[.string s, vL A c x, .int .u8 n] w fun e w' => e = .returned (.bool true) ∧ Below w.heap.size w w' := by
  have hsx := fun W => short_any A c x W hl
  have hrx : RB w A (shortL x).bys := hr.take 6
  have HFR := Lib.hid hrx.low
  have HRX := Lib.hid hrx; clear hrx hr
  have HM := Lib.hid hm
  have HM0 := Lib.hid hm; clear hm
  obtain ⟨x1, x2, x3, x4⟩ := short_small x
  have hRX := fun W h => rright_any A c (shortL x) W (by omega) h (by omega) (by omega) (by omega)
  have hAW := fun W h => awake_any m W h
  have hct : ∀ W, Calls Tryz.prog 17 #[.string s, .int .i64 40] W fun e w' => e = .returned (.string (cutB s 40)) ∧ W = w' := fun W => cut_any s 40 W (by omega)
  have hF1 := fun W => full_any (cutB s 40) W (by have := cutB_size s 40; omega)
  have hF2 := fun W => rfull_any (cutB s 40) W (by have := cutB_size s 40; omega)
  generalize cutB s 40 = s4 at *
  generalize rFull s4.data.toList = rf at *
  obtain ⟨rfw, rfb⟩ := rf
  simp only at hF1 hF2
  rw [hR] at hRX
  rw [rRight, Bool.and_eq_true, decide_eq_true_eq] at hR
  have hfit := rfits_fit hR.1
  have hk : k < 14 := by unfold isWord at hw; omega
  have hwd := fun W => words_at k hk W
  have hwne : wd k ≠ [] := by have := (wd_notsub hw []).2.2.2; simpa using this
  have hql : (wd k).length ≤ 9 := wd_len k
  have hq1 : 1 ≤ (wd k).length := by have := List.length_pos_iff.mpr hwne; omega
  have hjq : j < (wd k).length := by rw [← hj]; exact Nat.mod_lt _ (by omega)
  have z1 : (bs (wd k)).toList.isEmpty = false := by rw [toList_L, bs_L]; simpa using hwne
  have z2 : ¬ (bs (wd k)).toList = [] := by rw [toList_L, bs_L]; exact hwne
  have z3 : (bs (wd k)).size = (wd k).length := rfl
  have hk2 : (k : Int) < 14 := by omega
  have hexS : (bs (wd k)).extract 0 (j + 1) = bs ((wd k).take (j + 1)) := ba_ext (by rw [ext_L, bs_L, bs_L]; simp)
  have hSz : (bs ((wd k).take (j + 1))).size = j + 1 := by rw [bs_size, List.length_take]; omega
  have htext : rText (shortL x) = wd k ++ tailB (shortL x) := rText_word hnm hw
  have hTz : (bs (rText (shortL x))).size = (wd k).length + (tailB (shortL x)).length := by rw [bs_size, htext, List.length_append]
  have hexT : (bs (rText (shortL x))).extract (wd k).length ((wd k).length + (tailB (shortL x)).length) = bs (tailB (shortL x)) := ba_ext (by rw [ext_L, bs_L, bs_L, htext, List.take_of_length_le (by simp), List.drop_left])
  have htl : (tailB (shortL x)).length ≤ 100 := by have := hR.2; rw [htext, List.length_append] at this; omega
  have hTlz : (bs (tailB (shortL x))).size = (tailB (shortL x)).length := rfl
  have hcat : bs ((wd k).take (j + 1)) ++ bs (tailB (shortL x)) = bs ((wd k).take (j + 1) ++ tailB (shortL x)) := (bs_app _ _).symm
  have hpar := short_parse hfit hnm hw j hR.2
  have hF3 := fun W => rfull_any (bs ((wd k).take (j + 1))) W (by rw [hSz]; omega)
  rw [bs_L] at hF3
  have hTX := fun W h => rtext_fit A c (shortL x) W hfit h (by omega) (by omega) (by omega)
  have hOX := fun B d W h => ours_any B d (shortL x) W (by omega) h
  have hSS := fun B d W h h' => same_any B A d c (shortL x) (shortL x) W (by omega) (by omega) h h'
  have hsame : sameL (shortL x) (shortL x) = true := sameL_iff.mpr rfl
  rw [hsame] at hSS
  have hP0 := fun W h => parse_any (bs ((wd k).take (j + 1) ++ tailB (shortL x))) m W h
  rw [bs_L, hpar] at hP0
  clear hpar hsame hfit hR x1 x2 x3 x4 htext
  generalize rFull ((wd k).take (j + 1)) = fw at *
  obtain ⟨fww, fwb⟩ := fw
  simp only at hF3 hP0
  generalize bs ((wd k).take (j + 1) ++ tailB (shortL x)) = PP at *
  generalize bs (tailB (shortL x)) = TL at *
  generalize bs (rText (shortL x)) = TX at *
  generalize (tailB (shortL x)).length = tz at *
  generalize bs ((wd k).take (j + 1)) = SM at *
  generalize bs (wd k) = WK at *
  generalize (wd k).length = q at *
  clear hwne hw
  have hPA : fwb = true → ∀ W, W.cell? ⟨0, 0, none⟩ = some (.int .i64 m) → Calls Tryz.prog 14 #[.string PP] W fun e w' => ∃ A c, e = .returned (.tuple #[vL A c (shortL x), .int .i64 0]) ∧ RB w' A (shortL x).bys ∧ Below W.heap.size W w' := fun h W hm => by
    have := hP0 W hm
    rw [if_pos h] at this
    exact this.mono fun e w' ⟨A, c, h1, h2, _, h4⟩ => ⟨A, c, h1, h2, h4⟩
  have hPB : fwb = false → ∀ W, W.cell? ⟨0, 0, none⟩ = some (.int .i64 m) → Calls Tryz.prog 14 #[.string PP] W fun e w' => ∃ A c, e = .returned (.tuple #[.agg #[.int .i64 0, .int .i64 0, .slice A 0 c, .int .i64 0, .int .i64 0, .string ⟨#[]⟩, .bool false, .bool false, .bool false, .bool false, .string ⟨#[]⟩, .string ⟨#[]⟩], .int .i64 11]) ∧ Below W.heap.size W w' := fun h W hm => by
    have := hP0 W hm
    rw [if_neg (by rw [h]; simp)] at this
    exact this.mono fun e w' ⟨A, c, h1, h2, _, h4⟩ => ⟨A, c, h1, h4⟩
  clear hP0
  have hjz : (n : Int) % (q : Int) = (j : Int) := by omega
  have v0 : (0 : Int) < q := by omega
  have v1 : IntKind.i64.wrap ((1 : Int) + j) = 1 + j := IntWalk.i64_in _ (by omega)
  have v3 : ((1 : Int) + j).toNat = j + 1 := by omega
  have v4 : (1 : Int) + j ≤ q := by omega
  have v5 : (0 : Int) ≤ 1 + j := by omega
  have v6 : (q : Int) ≤ (q : Int) + tz := by omega
  have v7 : ¬ 9223372036854775807 < j + 1 + tz := by omega
  have v8 : (n : Int) < 256 := by omega
  clear hj
  generalize hX : shortL x = sx at *
  clear hX
  obtain ⟨nm, n, l, ⟨col, op, arg, nt⟩, has, whole, each, pat, wth⟩ := x
  obtain ⟨vnm, vn, vl, ⟨vcol, vop, varg, vnt⟩, vhas, vwhole, veach, vpat, vwth⟩ := sx
  have hbx : BoxW w.heap.size A c ⟨nm, n, l, ⟨col, op, arg, nt⟩, has, whole, each, pat, wth⟩ (w.alloc (.cells #[.int .i64 nm, .int .i64 n, .slice A l.length c, .int .i64 col, .int .i64 op, .string arg, .bool nt, .bool has, .bool whole, .bool each, .string pat, .string wth] 26)) := by
    unfold BoxW Box; simp [go_sem]
  have HBX := Lib.hid hbx; clear hbx
  unfold vL at *
  simp only at *
  have HNM := Lib.hid hnm; clear hnm
  go_enter Tryz.func6, Tryz.ntmps6
  go_upto_region 1 with fail
  obtain ⟨W, hWe⟩ : ∃ W, W = w.alloc (.cells #[.int .i64 nm, .int .i64 n, .slice A l.length c, .int .i64 col, .int .i64 op, .string arg, .bool nt, .bool has, .bool whole, .bool each, .string pat, .string wth] 26) := ⟨_, rfl⟩
  have hb := below_box w (.cells #[.int .i64 nm, .int .i64 n, .slice A l.length c, .int .i64 col, .int .i64 op, .string arg, .bool nt, .bool has, .bool whole, .bool each, .string pat, .string wth] 26)
  rw [← hWe] at HBX hb
  have HBW := Lib.hid hb
  have HRX1 := Lib.hid (HRX.out.keep hb)
  have HMC := Lib.hid (keep_cell hb HM.out)
  rw [← hWe]
  clear hWe hb HRX HM
  go_upto_region 6 with (first | (go_at_call 17; (with_reducible refine (hct _).mono ?_); rintro e w2 ⟨rfl, rfl⟩) | (go_at_call 19; (with_reducible refine (hF1 _).mono ?_); rintro e w2 ⟨rfl, hb⟩; have HBW := Lib.hid (keep_below HBW.out hb HBW.out.size); have HMC := Lib.hid (keep_cell hb HMC.out); have HRX1 := Lib.hid (HRX1.out.keep hb); have HBX := Lib.hid (HBX.out.keep hb)) | (go_at_call 20; (with_reducible refine (hF2 _).mono ?_); rintro e w2 ⟨rfl, hb⟩; have HBW := Lib.hid (keep_below HBW.out hb HBW.out.size); have HMC := Lib.hid (keep_cell hb HMC.out); have HRX1 := Lib.hid (HRX1.out.keep hb); have HBX := Lib.hid (HBX.out.keep hb)))
  go_cut [] (fun wx => Box w.heap.size 26 A c ⟨vnm, vn, vl, ⟨vcol, vop, varg, vnt⟩, vhas, vwhole, veach, vpat, vwth⟩ wx ∧ RB wx A vl ∧ wx.cell? ⟨0, 0, none⟩ = some (.int .i64 m) ∧ Below w.heap.size w wx)
  case first =>
    obtain ⟨⟨a0, a1, a2, a3, a4, a5, a6, a7, a8, a9, a10, a11⟩, fa⟩ := HBX.out
    simp only at a0 a1 a2 a3 a4 a5 a6 a7 a8 a9 a10 a11
    go_wp2_with (go_at_call 7; (with_reducible refine (hsx _).mono ?_); rintro e w3 ⟨rfl, hb⟩; have HBW := Lib.hid (keep_below HBW.out hb HBW.out.size); have HMC := Lib.hid (keep_cell hb HMC.out); have HRX1 := Lib.hid (HRX1.out.keep hb); clear a0 a1 a2 a3 a4 a5 a6 a7 a8 a9 a10 a11 fa; obtain ⟨⟨a0, a1, a2, a3, a4, a5, a6, a7, a8, a9, a10, a11⟩, fa⟩ := HBX.out.keep hb; simp only at a0 a1 a2 a3 a4 a5 a6 a7 a8 a9 a10 a11; clear hb)
    go_meet
    have hb0 := World.block_lt_of_cell? _ _ HM0.out
    simp only at hb0
    refine ⟨?_, ?_, ?_, ?_⟩
    · unfold Box; simp [go_sem, a0, a1, a2, a3, a4, a5, a6, a7, a8, a9, a10, a11, fa]
    · (iterate 12 (refine RB.setB ?_ HFR.out))
      exact HRX1.out
    · (iterate 12 (rw [cell_set_ne _ _ _ _ (.inl (by simp only; omega))]))
      exact HMC.out
    · (iterate 12 (refine below_set ?_ (by omega)))
      exact HBW.out
  case rest =>
    obtain ⟨hx, hr1, hm1, hbw⟩ := hcut
    clear hsx HBX HBW HRX1 HMC hF1 hF2 hct
    have HX := Lib.hid hx; have HBW := Lib.hid hbw; have HRX1 := Lib.hid hr1; have HMC := Lib.hid hm1
    clear hbw hx hr1 hm1
    obtain ⟨a0, a1, a2, a3, a4, a5, a6, a7, a8, a9, a10, a11⟩ := HX.out
    simp only at a0 a1 a2 a3 a4 a5 a6 a7 a8 a9 a10 a11
    obtain rfl : vnm = (k : Int) := HNM.out
    go_upto_region 7 with fail
    go_cut [49] (fun v wx => v = .bool false ∧ Box w.heap.size 26 A c ⟨k, vn, vl, ⟨vcol, vop, varg, vnt⟩, vhas, vwhole, veach, vpat, vwth⟩ wx ∧ RB wx A vl ∧ wx.cell? ⟨0, 0, none⟩ = some (.int .i64 m) ∧ Below w.heap.size w wx)
    case first =>
      clear hTX hPA hPB hOX hSS hF3
      go_region_with (first | (go_at_call 8; (with_reducible refine (hRX _ ?hr).mono ?_); (case hr => exact HRX1.out); rintro e w2 ⟨rfl, hb⟩; replace hb := undrew hb; have HBW := Lib.hid (keep_below HBW.out hb HBW.out.size); have HMC := Lib.hid (keep_cell hb HMC.out); have HRX1 := Lib.hid (HRX1.out.keep hb); have HX := Lib.hid (HX.out.keep hb); clear a0 a1 a2 a3 a4 a5 a6 a7 a8 a9 a10 a11; obtain ⟨a0, a1, a2, a3, a4, a5, a6, a7, a8, a9, a10, a11⟩ := HX.out; simp only at a0 a1 a2 a3 a4 a5 a6 a7 a8 a9 a10 a11) | (go_at_call 21; (with_reducible refine (hwd _).mono ?_); rintro e w3 ⟨rfl, hcell, hb⟩; have HBW := Lib.hid (keep_below HBW.out hb HBW.out.size); have HMC := Lib.hid (keep_cell hb HMC.out); have HRX1 := Lib.hid (HRX1.out.keep hb); have HX := Lib.hid (HX.out.keep hb); clear a0 a1 a2 a3 a4 a5 a6 a7 a8 a9 a10 a11; obtain ⟨a0, a1, a2, a3, a4, a5, a6, a7, a8, a9, a10, a11⟩ := HX.out; simp only at a0 a1 a2 a3 a4 a5 a6 a7 a8 a9 a10 a11))
      all_goals
        go_wp2_with fail
        go_meet
        exact ⟨rfl, HX.out, HRX1.out, HMC.out, HBW.out⟩
    case rest =>
      obtain ⟨rfl, hx, hr1, hm1, hbw⟩ := hcut
      clear HX HBW HRX1 HMC hRX a0 a1 a2 a3 a4 a5 a6 a7 a8 a9 a10 a11
      have HX := Lib.hid hx; have HBW := Lib.hid hbw; have HRX1 := Lib.hid hr1; have HMC := Lib.hid hm1
      clear hbw hx hr1 hm1
      obtain ⟨a0, a1, a2, a3, a4, a5, a6, a7, a8, a9, a10, a11⟩ := HX.out
      simp only at a0 a1 a2 a3 a4 a5 a6 a7 a8 a9 a10 a11
      go_upto_region 9 with fail
      go_cut [11] (fun v wx => v = .string WK ∧ Box w.heap.size 26 A c ⟨k, vn, vl, ⟨vcol, vop, varg, vnt⟩, vhas, vwhole, veach, vpat, vwth⟩ wx ∧ RB wx A vl ∧ wx.cell? ⟨0, 0, none⟩ = some (.int .i64 m) ∧ Below w.heap.size w wx)
      case first =>
        clear hTX hPA hPB hOX hSS hF3
        go_region_with (first | (go_at_call 21; (with_reducible refine (hwd _).mono ?_); rintro e w3 ⟨rfl, hcell, hb⟩; replace hb := undrew hb; have hcell2 : w3.cell? ⟨wc.heap.size, k, none⟩ = some (.string WK) := hcell; have HBW := Lib.hid (keep_below HBW.out hb HBW.out.size); have HMC := Lib.hid (keep_cell hb HMC.out); have HRX1 := Lib.hid (HRX1.out.keep hb); have HX := Lib.hid (HX.out.keep hb); clear a0 a1 a2 a3 a4 a5 a6 a7 a8 a9 a10 a11; obtain ⟨a0, a1, a2, a3, a4, a5, a6, a7, a8, a9, a10, a11⟩ := HX.out; simp only at a0 a1 a2 a3 a4 a5 a6 a7 a8 a9 a10 a11))
        all_goals
          go_wp2_with fail
          go_meet
          exact ⟨rfl, HX.out, HRX1.out, HMC.out, HBW.out⟩
      case rest =>
        obtain ⟨rfl, hx, hr1, hm1, hbw⟩ := hcut
        clear HX HBW HRX1 HMC hwd a0 a1 a2 a3 a4 a5 a6 a7 a8 a9 a10 a11
        have HX := Lib.hid hx; have HBW := Lib.hid hbw; have HRX1 := Lib.hid hr1; have HMC := Lib.hid hm1
        clear hbw hx hr1 hm1
        obtain ⟨a0, a1, a2, a3, a4, a5, a6, a7, a8, a9, a10, a11⟩ := HX.out
        simp only at a0 a1 a2 a3 a4 a5 a6 a7 a8 a9 a10 a11
        cases fwb
        · have hPB2 := hPB rfl
          clear hPA hPB hOX hSS
          go_upto_region 12 with (first | (go_at_call 9; (with_reducible refine (hTX _ ?hr).mono ?_); (case hr => first | assumption | exact HRX1.out | exact HMC.out | (go_split_ands; assumption)); rintro e w2 ⟨rfl, hb⟩; have HBW := Lib.hid (keep_below HBW.out hb HBW.out.size); have HMC := Lib.hid (keep_cell hb HMC.out); have HRX1 := Lib.hid (HRX1.out.keep hb); have HX := Lib.hid (HX.out.keep hb); clear a0 a1 a2 a3 a4 a5 a6 a7 a8 a9 a10 a11; obtain ⟨a0, a1, a2, a3, a4, a5, a6, a7, a8, a9, a10, a11⟩ := HX.out; simp only at a0 a1 a2 a3 a4 a5 a6 a7 a8 a9 a10 a11) | (go_at_call 14; (with_reducible refine (hPB2 _ ?hr).mono ?_); (case hr => first | assumption | exact HRX1.out | exact HMC.out | (go_split_ands; assumption)); rintro e w2 ⟨A5, c5, rfl, hb⟩; have HBW := Lib.hid (keep_below HBW.out hb HBW.out.size); have HMC := Lib.hid (keep_cell hb HMC.out); have HRX1 := Lib.hid (HRX1.out.keep hb); have HX := Lib.hid (HX.out.keep hb); clear a0 a1 a2 a3 a4 a5 a6 a7 a8 a9 a10 a11; obtain ⟨a0, a1, a2, a3, a4, a5, a6, a7, a8, a9, a10, a11⟩ := HX.out; simp only at a0 a1 a2 a3 a4 a5 a6 a7 a8 a9 a10 a11))
          obtain ⟨W2, hWe⟩ : ∃ W2, W2 = w2.alloc (.cells #[.int .i64 0, .int .i64 0, .slice A5 0 c5, .int .i64 0, .int .i64 0, .string ⟨#[]⟩, .bool false, .bool false, .bool false, .bool false, .string ⟨#[]⟩, .string ⟨#[]⟩] 34) := ⟨_, rfl⟩
          have hb := below_box w2 (.cells #[.int .i64 0, .int .i64 0, .slice A5 0 c5, .int .i64 0, .int .i64 0, .string ⟨#[]⟩, .bool false, .bool false, .bool false, .bool false, .string ⟨#[]⟩, .string ⟨#[]⟩] 34)
          rw [← hWe] at hb
          have HBW := Lib.hid (keep_below HBW.out hb HBW.out.size); have HMC := Lib.hid (keep_cell hb HMC.out); have HRX1 := Lib.hid (HRX1.out.keep hb); have HX := Lib.hid (HX.out.keep hb); clear a0 a1 a2 a3 a4 a5 a6 a7 a8 a9 a10 a11; obtain ⟨a0, a1, a2, a3, a4, a5, a6, a7, a8, a9, a10, a11⟩ := HX.out; simp only at a0 a1 a2 a3 a4 a5 a6 a7 a8 a9 a10 a11
          clear hb
          rw [← hWe]
          clear hWe
          go_wp2_with (first | (go_at_call 20; (with_reducible refine (hF3 _).mono ?_); rintro e w2 ⟨rfl, hb⟩; have HBW := Lib.hid (keep_below HBW.out hb HBW.out.size); have HMC := Lib.hid (keep_cell hb HMC.out); have HRX1 := Lib.hid (HRX1.out.keep hb); have HX := Lib.hid (HX.out.keep hb); clear a0 a1 a2 a3 a4 a5 a6 a7 a8 a9 a10 a11; obtain ⟨a0, a1, a2, a3, a4, a5, a6, a7, a8, a9, a10, a11⟩ := HX.out; simp only at a0 a1 a2 a3 a4 a5 a6 a7 a8 a9 a10 a11) | (go_at_call 13; (with_reducible refine (hAW _ ?hr).mono ?_); (case hr => first | assumption | exact HRX1.out | exact HMC.out | (go_split_ands; assumption)); rintro e w2 ⟨rfl, hb⟩; have HBW := Lib.hid (keep_below HBW.out hb HBW.out.size); have HMC := Lib.hid (keep_cell hb HMC.out); have HRX1 := Lib.hid (HRX1.out.keep hb); have HX := Lib.hid (HX.out.keep hb); clear a0 a1 a2 a3 a4 a5 a6 a7 a8 a9 a10 a11; obtain ⟨a0, a1, a2, a3, a4, a5, a6, a7, a8, a9, a10, a11⟩ := HX.out; simp only at a0 a1 a2 a3 a4 a5 a6 a7 a8 a9 a10 a11))
          go_ret
          exact ⟨rfl, HBW.out⟩
        · have hPA2 := hPA rfl
          clear hPB hPA
          go_upto_region 12 with (first | (go_at_call 9; (with_reducible refine (hTX _ ?hr).mono ?_); (case hr => first | assumption | exact HRX1.out | exact HMC.out | (go_split_ands; assumption)); rintro e w2 ⟨rfl, hb⟩; have HBW := Lib.hid (keep_below HBW.out hb HBW.out.size); have HMC := Lib.hid (keep_cell hb HMC.out); have HRX1 := Lib.hid (HRX1.out.keep hb); have HX := Lib.hid (HX.out.keep hb); clear a0 a1 a2 a3 a4 a5 a6 a7 a8 a9 a10 a11; obtain ⟨a0, a1, a2, a3, a4, a5, a6, a7, a8, a9, a10, a11⟩ := HX.out; simp only at a0 a1 a2 a3 a4 a5 a6 a7 a8 a9 a10 a11) | (go_at_call 14; (with_reducible refine (hPA2 _ ?hr).mono ?_); (case hr => first | assumption | exact HRX1.out | exact HMC.out | (go_split_ands; assumption)); rintro e w2 ⟨A5, c5, rfl, hr5, hb⟩; have HR5 := Lib.hid hr5; have HBY := Lib.hid hb; have HBW := Lib.hid (keep_below HBW.out hb HBW.out.size); have HMC := Lib.hid (keep_cell hb HMC.out); have HRX1 := Lib.hid (HRX1.out.keep hb); have HX := Lib.hid (HX.out.keep hb); clear a0 a1 a2 a3 a4 a5 a6 a7 a8 a9 a10 a11; obtain ⟨a0, a1, a2, a3, a4, a5, a6, a7, a8, a9, a10, a11⟩ := HX.out; simp only at a0 a1 a2 a3 a4 a5 a6 a7 a8 a9 a10 a11))
          obtain ⟨W2, hWe⟩ : ∃ W2, W2 = w2.alloc (.cells #[.int .i64 k, .int .i64 vn, .slice A5 vl.length c5, .int .i64 vcol, .int .i64 vop, .string varg, .bool vnt, .bool vhas, .bool vwhole, .bool veach, .string vpat, .string vwth] 34) := ⟨_, rfl⟩
          have hb := below_box w2 (.cells #[.int .i64 k, .int .i64 vn, .slice A5 vl.length c5, .int .i64 vcol, .int .i64 vop, .string varg, .bool vnt, .bool vhas, .bool vwhole, .bool veach, .string vpat, .string vwth] 34)
          rw [← hWe] at hb
          have HBW := Lib.hid (keep_below HBW.out hb HBW.out.size)
          have HMC := Lib.hid (keep_cell hb HMC.out)
          have HRX1 := Lib.hid (HRX1.out.keep hb)
          have HS3 := Lib.hid (HR5.out.keep hb)
          have hyb : Box w2.heap.size 34 A5 c5 ⟨k, vn, vl, ⟨vcol, vop, varg, vnt⟩, vhas, vwhole, veach, vpat, vwth⟩ W2 := by rw [hWe]; unfold Box; simp [go_sem]
          have HYB := Lib.hid hyb
          rw [← hWe]
          have HX := Lib.hid (HX.out.keep hb)
          clear a0 a1 a2 a3 a4 a5 a6 a7 a8 a9 a10 a11 hWe hyb hb
          generalize w2.heap.size = B2 at *
          go_upto_region 15 with (first | (go_at_call 20; (with_reducible refine (hF3 _).mono ?_); rintro e W3 ⟨rfl, hb⟩; have HBW := Lib.hid (keep_below HBW.out hb HBW.out.size); have HMC := Lib.hid (keep_cell hb HMC.out); have HRX1 := Lib.hid (HRX1.out.keep hb); have HS3 := Lib.hid (HS3.out.keep hb); have HYB := Lib.hid (HYB.out.keep hb); have HX := Lib.hid (HX.out.keep hb); clear hb))
          obtain ⟨a0, a1, a2, a3, a4, a5, a6, a7, a8, a9, a10, a11⟩ := HX.out
          obtain ⟨b0, b1, b2, b3, b4, b5, b6, b7, b8, b9, b10, b11⟩ := HYB.out
          simp only at a0 a1 a2 a3 a4 a5 a6 a7 a8 a9 a10 a11 b0 b1 b2 b3 b4 b5 b6 b7 b8 b9 b10 b11
          have q3 := HBW.out; have m3 := HMC.out; have r3 := HRX1.out; have s3 := HS3.out
          clear hTX hPA2 HX HYB HBW HMC HRX1 HS3
          go_region_held3 (fun w' => w'.cell? ⟨w.heap.size, 0, none⟩ = some (.int .i64 k) ∧ w'.cell? ⟨w.heap.size, 1, none⟩ = some (.int .i64 vn) ∧ w'.cell? ⟨w.heap.size, 2, none⟩ = some (.slice A vl.length c) ∧ w'.cell? ⟨w.heap.size, 3, none⟩ = some (.int .i64 vcol) ∧ w'.cell? ⟨w.heap.size, 4, none⟩ = some (.int .i64 vop) ∧ w'.cell? ⟨w.heap.size, 5, none⟩ = some (.string varg) ∧ w'.cell? ⟨w.heap.size, 6, none⟩ = some (.bool vnt) ∧ w'.cell? ⟨w.heap.size, 7, none⟩ = some (.bool vhas) ∧ w'.cell? ⟨w.heap.size, 8, none⟩ = some (.bool vwhole) ∧ w'.cell? ⟨w.heap.size, 9, none⟩ = some (.bool veach) ∧ w'.cell? ⟨w.heap.size, 10, none⟩ = some (.string vpat) ∧ w'.cell? ⟨w.heap.size, 11, none⟩ = some (.string vwth) ∧ w'.cell? ⟨B2, 0, none⟩ = some (.int .i64 k) ∧ w'.cell? ⟨B2, 1, none⟩ = some (.int .i64 vn) ∧ w'.cell? ⟨B2, 2, none⟩ = some (.slice A5 vl.length c5) ∧ w'.cell? ⟨B2, 3, none⟩ = some (.int .i64 vcol) ∧ w'.cell? ⟨B2, 4, none⟩ = some (.int .i64 vop) ∧ w'.cell? ⟨B2, 5, none⟩ = some (.string varg) ∧ w'.cell? ⟨B2, 6, none⟩ = some (.bool vnt) ∧ w'.cell? ⟨B2, 7, none⟩ = some (.bool vhas) ∧ w'.cell? ⟨B2, 8, none⟩ = some (.bool vwhole) ∧ w'.cell? ⟨B2, 9, none⟩ = some (.bool veach) ∧ w'.cell? ⟨B2, 10, none⟩ = some (.string vpat) ∧ w'.cell? ⟨B2, 11, none⟩ = some (.string vwth) ∧ w'.cell? ⟨0, 0, none⟩ = some (.int .i64 m) ∧ RB w' A vl ∧ RB w' A5 vl ∧ Below w.heap.size w w')
            ((go_split_ands; refine ⟨?_, ?_, ?_, ?_, ?_, ?_, ?_, ?_, ?_, ?_, ?_, ?_, ?_, ?_, ?_, ?_, ?_, ?_, ?_, ?_, ?_, ?_, ?_, ?_, ?_, ?_, ?_, ?_⟩ <;> first | assumption | exact Below.drew (by assumption) | exact keep_cell hb (by assumption) | exact RB.keep (by assumption) hb | exact keep_below (by assumption) hb (by first | assumption | exact Below.size (by assumption))))
            (first
              | (go_at_call 16; (with_reducible refine (hOX _ _ _ ?hr).mono ?_); (case hr => first | assumption | (go_split_ands; assumption)); rintro e w4 ⟨A6, c6, rfl, hr6, hb⟩)
              | (go_at_call 15; (with_reducible refine (hSS _ _ _ ?hr ?hq).mono ?_); (case hr => first | assumption | (go_split_ands; assumption)); (case hq => first | assumption | (go_split_ands; assumption)); rintro e w8 ⟨rfl, hb⟩)
              | (go_at_call 13; (with_reducible refine (hAW _ ?hr).mono ?_); (case hr => first | assumption | (go_split_ands; assumption)); rintro e w9 ⟨rfl, hb⟩))
          go_wp2_with fail
          go_ret
          go_split_ands
          exact ⟨rfl, by assumption⟩
theorem names_law (s : ByteArray) (A : Option Addr) (c : Nat) (x : Ln) (n : Nat) (m : Int) (w : World) (hm : w.cell? ⟨0, 0, none⟩ = some (.int .i64 m)) (hl : x.bys.length ≤ c) (hr : RB w A x.bys) (hn : n < 256) :
    Calls Tryz.prog 6 #[.string s, vL A c x, .int .u8 n] w fun e w' => e = .returned (.bool true) ∧ Below w.heap.size w w' := by
  cases hR : rRight (shortL x) with
  | false => exact names1 s A c x n m w hm hl hr hn hR
  | true =>
    have hf : Fit (shortL x) := by rw [rRight, Bool.and_eq_true] at hR; exact rfits_fit hR.1
    have hp := fit_pok hf
    simp only [pOk, Bool.and_eq_true, decide_eq_true_eq] at hp
    obtain ⟨k, hk⟩ := Int.eq_ofNat_of_zero_le hp.1
    have hk14 : k < 14 := by omega
    by_cases hw : wd k = []
    · exact names2 s A c x n m w hm hl hr hn hR k hk14 hk hw
    · exact names3 s A c x n m w hm hl hr hn hR k _ (word_of hk14 hw) hk rfl
end Go.Proofs.YtckmkhcahnijmaaGreatDoor
