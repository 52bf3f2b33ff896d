/- The walks of the program: ex.word, ex.text. -/
import Derived.Test.YtckmkhcahnijmaaGreatDoorU1
namespace Go.Proofs.YtckmkhcahnijmaaGreatDoor
open Go.RowKit
set_option linter.unusedVariables false
set_option linter.unusedSimpArgs false

set_option maxRecDepth 100000 in
theorem word_any (m : Nat) (hm : m < 14) (w : World) :
    Calls Tryz.prog 35 #[.int .i64 m] w fun e w' => e = .returned (.string (bs (wd m))) ∧ Below w.heap.size w w' := by
  have h1 : (m : Int) < 14 := by omega
  go_enter Tryz.func35, Tryz.ntmps35
  go_upto_region 1 with fail
  go_cut [3] (fun v wx => v = .pointer (some ⟨w.heap.size, 0, none⟩) ∧ wx.cell? ⟨w.heap.size, m, none⟩ = some (.string (bs (wd m))) ∧ Below w.heap.size w wx)
  case first =>
    go_wp2_with fail
    go_meet
    exact ⟨rfl, (cell_new w wordCells 84 _ m rfl).trans (wordCells_get m hm), below_box _ _⟩
  case rest =>
    obtain ⟨rfl, hc, hb⟩ := hcut
    go_wp2_with fail
    go_ret
    exact ⟨rfl, hb⟩
theorem wordZ (z : Int) (h0 : 0 ≤ z) (h1 : z ≤ 13) (w : World) :
    Calls Tryz.prog 35 #[.int .i64 z] w fun e w' => e = .returned (.string (bs (wd z.toNat))) ∧ Below w.heap.size w w' := by
  obtain ⟨m, rfl⟩ := Int.eq_ofNat_of_zero_le h0
  exact word_any m (by omega) w

/-- The text of a line that fits, with each name alone. -/
def pText (x : Ln) : List UInt8 :=
  if x.nm = 1 then numB x.n.toNat else if x.nm = 2 then wd 2 ++ keysB x.bys else if x.nm = 3 ∨ x.nm = 4 then wd x.nm.toNat ++ (if x.has then [32] ++ tPrint x.t else []) else
  if x.nm = 5 ∨ x.nm = 6 ∨ x.nm = 13 then wd x.nm.toNat ++ ([32] ++ numB x.n.toNat) else if x.nm = 7 then subB x else wd x.nm.toNat

set_option maxRecDepth 100000 in
set_option maxHeartbeats 4000000 in
theorem ptextA (A : Option Addr) (c : Nat) (x : Ln) (w : World) (h0 : 0 ≤ x.nm) (h13 : x.nm ≤ 13) (hn : isNum x.nm = true → 0 ≤ x.n ∧ x.n ≤ 2147483647) (hs : x.t.arg.size ≤ 65536) (h2 : x.nm ≠ 2) (h7 : x.nm ≠ 7) :
    Calls Tryz.prog 28 #[vL A c x] w fun e w' => e = .returned (.string (bs (pText x))) ∧ Below w.heap.size w w' := by
  obtain ⟨nm, n, l, ⟨col, op, arg, nt⟩, has, whole, each, pat, wth⟩ := x
  unfold vL
  simp only at *
  have hbx := below_box w (.cells #[.int .i64 nm, .int .i64 n, .slice A l.length c, .int .i64 col, .int .i64 op, .string arg, .bool nt, .bool has, .bool whole, .bool each, .string pat, .string wth] 34)
  have HB0 : Hid (Box w.heap.size 34 A c ⟨nm, n, l, ⟨col, op, arg, nt⟩, has, whole, each, pat, wth⟩ (w.alloc (.cells #[.int .i64 nm, .int .i64 n, .slice A l.length c, .int .i64 col, .int .i64 op, .string arg, .bool nt, .bool has, .bool whole, .bool each, .string pat, .string wth] 34))) :=
    Lib.hid (by unfold Box; simp [go_sem])
  have hwd := fun W => wordZ nm h0 h13 W
  have hpx := fun W (h0 : 0 ≤ n) (h1 : n ≤ 2147483647) => ptextZ n W h0 h1
  go_enter Tryz.func28, Tryz.ntmps28
  go_upto_region 1 with fail
  go_cut [3] (fun s wx => s = .string (bs (wd nm.toNat)) ∧ Box w.heap.size 34 A c ⟨nm, n, l, ⟨col, op, arg, nt⟩, has, whole, each, pat, wth⟩ wx ∧ Below w.heap.size w wx)
  case first =>
    go_wp2_with (go_at_call 35; refine (hwd _).mono ?_; rintro e w2 ⟨rfl, hb2⟩)
    go_meet
    exact ⟨rfl, HB0.out.keep hb2, keep_below hbx hb2 (by simp)⟩
  case rest =>
    obtain ⟨rfl, hbox, hbW⟩ := hcut
    clear HB0 hbx hwd
    have HBX := Lib.hid hbox; clear hbox
    obtain ⟨k0, k1, k2, k3, k4, k5, k6, k7, k8, k9, k10, k11⟩ := HBX.out
    simp only at k0 k1 k3 k4 k5 k6 k7
    clear k2 k8 k9 k10 k11
    cases hnum : isNum nm
    · have hcs : nm = 3 ∨ nm = 4 ∨ (nm == 1) = false ∧ (nm == 2) = false ∧ (nm == 3) = false ∧ (nm == 4) = false ∧ (nm == 5) = false ∧ (nm == 6) = false ∧ (nm == 7) = false ∧ (nm == 13) = false := by
        simp [isNum] at hnum
        simp only [beq_eq_false_iff_ne]; omega
      rcases hcs with rfl | rfl | ⟨q1, q2, q3, q4, q5, q6, q7, q8⟩
      · have htp := fun W => tprint_any ⟨col, op, arg, nt⟩ W hs
        have htl := tPrint_len ⟨col, op, arg, nt⟩ hs
        have htz : (bs (tPrint ⟨col, op, arg, nt⟩)).size = (tPrint ⟨col, op, arg, nt⟩).length := rfl
        have w3 : (bs (wd (Int.toNat 3))).size ≤ 9 := wd_len 3
        have w3' : (bs (wd 3)).size ≤ 9 := wd_len 3
        generalize hW : tPrint ⟨col, op, arg, nt⟩ = tp at *
        have HW := Lib.hid hW; clear hW
        have w4 : ¬ 9223372036854775807 < (bs (wd 3)).size + (1 + tp.length) := by omega
        have w6 : ¬ 9223372036854775807 < 1 + tp.length := by omega
        have w7 : ¬ 9223372036854775807 < (bs (wd 3)).size := by omega
        unfold vT at htp
        simp only at htp
        cases has
        · go_upto_region 13 with fail
          clear k0 k1
          go_region_held3 (fun w' => w'.cell? ⟨w.heap.size, 3, none⟩ = some (.int .i64 col) ∧ w'.cell? ⟨w.heap.size, 4, none⟩ = some (.int .i64 op) ∧ w'.cell? ⟨w.heap.size, 5, none⟩ = some (.string arg) ∧ w'.cell? ⟨w.heap.size, 6, none⟩ = some (.bool nt) ∧ w'.cell? ⟨w.heap.size, 7, none⟩ = some (.bool false) ∧ Below w.heap.size w w')
            ((go_split_ands; refine ⟨?_, ?_, ?_, ?_, ?_, ?_⟩ <;> first | assumption | exact Below.drew (by assumption) | exact keep_cell hb2 (by assumption) | exact keep_below (by assumption) hb2 (by first | assumption | exact Below.size (by assumption))))
            (first | (go_at_call 46; refine (htp _).mono ?_; rintro e w2 ⟨rfl, hb2⟩) | (go_at_call 45; refine (sign_any _ _ _).mono ?_; rintro e w2 ⟨rfl, rfl⟩))
          go_wp2_with fail
          go_ret
          refine ⟨ret_str (ba_ext ?_), keep_below hbW (undrew hb2) hbW.size⟩
          simp [pText, app_L, bs_L, HW.out]
        · go_upto_region 13 with fail
          clear k0 k1
          go_region_held3 (fun w' => w'.cell? ⟨w.heap.size, 3, none⟩ = some (.int .i64 col) ∧ w'.cell? ⟨w.heap.size, 4, none⟩ = some (.int .i64 op) ∧ w'.cell? ⟨w.heap.size, 5, none⟩ = some (.string arg) ∧ w'.cell? ⟨w.heap.size, 6, none⟩ = some (.bool nt) ∧ w'.cell? ⟨w.heap.size, 7, none⟩ = some (.bool true) ∧ Below w.heap.size w w')
            ((go_split_ands; refine ⟨?_, ?_, ?_, ?_, ?_, ?_⟩ <;> first | assumption | exact Below.drew (by assumption) | exact keep_cell hb2 (by assumption) | exact keep_below (by assumption) hb2 (by first | assumption | exact Below.size (by assumption))))
            (first | (go_at_call 46; refine (htp _).mono ?_; rintro e w2 ⟨rfl, hb2⟩) | (go_at_call 45; refine (sign_any _ _ _).mono ?_; rintro e w2 ⟨rfl, rfl⟩))
          go_wp2_with fail
          go_ret
          refine ⟨ret_str (ba_ext ?_), keep_below hbW (undrew hb2) hbW.size⟩
          simp [pText, app_L, bs_L, HW.out]
      · have htp := fun W => tprint_any ⟨col, op, arg, nt⟩ W hs
        have htl := tPrint_len ⟨col, op, arg, nt⟩ hs
        have htz : (bs (tPrint ⟨col, op, arg, nt⟩)).size = (tPrint ⟨col, op, arg, nt⟩).length := rfl
        have w3 : (bs (wd (Int.toNat 4))).size ≤ 9 := wd_len 4
        have w3' : (bs (wd 4)).size ≤ 9 := wd_len 4
        generalize hW : tPrint ⟨col, op, arg, nt⟩ = tp at *
        have HW := Lib.hid hW; clear hW
        have w4 : ¬ 9223372036854775807 < (bs (wd 4)).size + (1 + tp.length) := by omega
        have w6 : ¬ 9223372036854775807 < 1 + tp.length := by omega
        have w7 : ¬ 9223372036854775807 < (bs (wd 4)).size := by omega
        unfold vT at htp
        simp only at htp
        cases has
        · go_upto_region 13 with fail
          clear k0 k1
          go_region_held3 (fun w' => w'.cell? ⟨w.heap.size, 3, none⟩ = some (.int .i64 col) ∧ w'.cell? ⟨w.heap.size, 4, none⟩ = some (.int .i64 op) ∧ w'.cell? ⟨w.heap.size, 5, none⟩ = some (.string arg) ∧ w'.cell? ⟨w.heap.size, 6, none⟩ = some (.bool nt) ∧ w'.cell? ⟨w.heap.size, 7, none⟩ = some (.bool false) ∧ Below w.heap.size w w')
            ((go_split_ands; refine ⟨?_, ?_, ?_, ?_, ?_, ?_⟩ <;> first | assumption | exact Below.drew (by assumption) | exact keep_cell hb2 (by assumption) | exact keep_below (by assumption) hb2 (by first | assumption | exact Below.size (by assumption))))
            (first | (go_at_call 46; refine (htp _).mono ?_; rintro e w2 ⟨rfl, hb2⟩) | (go_at_call 45; refine (sign_any _ _ _).mono ?_; rintro e w2 ⟨rfl, rfl⟩))
          go_wp2_with fail
          go_ret
          refine ⟨ret_str (ba_ext ?_), keep_below hbW (undrew hb2) hbW.size⟩
          simp [pText, app_L, bs_L, HW.out]
        · go_upto_region 13 with fail
          clear k0 k1
          go_region_held3 (fun w' => w'.cell? ⟨w.heap.size, 3, none⟩ = some (.int .i64 col) ∧ w'.cell? ⟨w.heap.size, 4, none⟩ = some (.int .i64 op) ∧ w'.cell? ⟨w.heap.size, 5, none⟩ = some (.string arg) ∧ w'.cell? ⟨w.heap.size, 6, none⟩ = some (.bool nt) ∧ w'.cell? ⟨w.heap.size, 7, none⟩ = some (.bool true) ∧ Below w.heap.size w w')
            ((go_split_ands; refine ⟨?_, ?_, ?_, ?_, ?_, ?_⟩ <;> first | assumption | exact Below.drew (by assumption) | exact keep_cell hb2 (by assumption) | exact keep_below (by assumption) hb2 (by first | assumption | exact Below.size (by assumption))))
            (first | (go_at_call 46; refine (htp _).mono ?_; rintro e w2 ⟨rfl, hb2⟩) | (go_at_call 45; refine (sign_any _ _ _).mono ?_; rintro e w2 ⟨rfl, rfl⟩))
          go_wp2_with fail
          go_ret
          refine ⟨ret_str (ba_ext ?_), keep_below hbW (undrew hb2) hbW.size⟩
          simp [pText, app_L, bs_L, HW.out]
      · go_wp2_with fail
        go_ret
        simp only [beq_eq_false_iff_ne] at q1 q2 q3 q4 q5 q6 q7 q8
        exact ⟨ret_str (by simp [pText, q1, q2, q3, q4, q5, q6, q7, q8]), hbW⟩
    · obtain ⟨n0, n1⟩ := hn hnum
      have hcs : nm = 1 ∨ nm = 5 ∨ nm = 6 ∨ nm = 13 := by simp [isNum] at hnum; omega
      have hpz : (bs (numB n.toNat)).size = (numB n.toNat).length := rfl
      have hzl := numB_len n.toNat
      have w5 : (bs (wd 5)).size ≤ 9 := wd_len 5
      have w6 : (bs (wd 6)).size ≤ 9 := wd_len 6
      have w13 : (bs (wd 13)).size ≤ 9 := wd_len 13
      rcases hcs with rfl | rfl | rfl | rfl
      all_goals
        go_wp2_with (go_at_call 44; refine (hpx _ n0 n1).mono ?_; rintro e w2 ⟨rfl, hb2⟩)
        go_ret
        refine ⟨ret_str (ba_ext ?_), keep_below hbW hb2 hbW.size⟩
        simp [pText, app_L, bs_L, wd, wordsL, bs]
end Go.Proofs.YtckmkhcahnijmaaGreatDoor
