/- The walk of the statement ExPrints. -/
import Derived.Test.YtckmkhcahnijmaaGreatDoorW4
namespace Go.Proofs.YtckmkhcahnijmaaGreatDoor
open Go.RowKit
set_option linter.unusedVariables false
set_option linter.unusedSimpArgs false

set_option maxRecDepth 100000 in
set_option maxHeartbeats 4000000 in
theorem prints_law (A : Option Addr) (c : Nat) (x : Ln) (m : Int) (w : World) (hm : w.cell? ⟨0, 0, none⟩ = some (.int .i64 m)) (hl : x.bys.length ≤ c) (hr : RB w A x.bys) :
    Calls Tryz.prog 3 #[vL A c x] w fun e w' => e = .returned (.bool true) ∧ Below w.heap.size w w' := by
  have hsx := fun W => short_any A c x W hl
  have hrx : RB w A (shortL x).bys := hr.take 6
  have HRX := Lib.hid hrx; clear hrx hr
  have HM := Lib.hid hm; clear hm
  obtain ⟨x1, x2, x3, x4⟩ := short_small x
  have hRX := fun W h => rright_any A c (shortL x) W (by omega) h (by omega) (by omega) (by omega)
  have hRT := fun B d W h => right_any B d (shortL x) W (by omega) h (by omega) (by omega) (by omega)
  have hMX := fun W h => mine_any A c (shortL x) W (by omega) h
  have hPX := fun B d W h => print_any B d (shortL x) W (by omega) h (by omega) (by omega) (by omega)
  have hOX := fun B d W h => ours_any B d (shortL x) W (by omega) h
  have hSS := fun B d W h h' => same_any B A d c (shortL x) (shortL x) W (by omega) (by omega) h h'
  have hAW := fun W h => awake_any m W h
  have hTX : rRight (shortL x) = true → ∀ W, RB W A (shortL x).bys → Calls Tryz.prog 9 #[vL A c (shortL x)] W fun e w' => e = .returned (.string (bs (rText (shortL x)))) ∧ Below W.heap.size W w' := fun h W hr => by
    rw [rRight, Bool.and_eq_true] at h
    exact rtext_fit A c (shortL x) W (rfits_fit h.1) hr (by omega) (by omega) (by omega)
  have hPA : rRight (shortL x) = true → ∀ W, W.cell? ⟨0, 0, none⟩ = some (.int .i64 m) → Calls Tryz.prog 14 #[.string (bs (rText (shortL x)))] W fun e w' => ∃ A c, e = .returned (.tuple #[vL A c (shortL x), .int .i64 0]) ∧ RB w' A (shortL x).bys ∧ Below W.heap.size W w' := fun h W hm => by
    rw [rRight, Bool.and_eq_true, decide_eq_true_eq] at h
    have := parse_any (bs (rText (shortL x))) m W hm
    rw [bs_L, parse_text (rfits_fit h.1) h.2] at this
    exact this.mono fun e w' ⟨A, c, h1, h2, _, h4⟩ => ⟨A, c, h1, h2, h4⟩
  have hsame : sameL (shortL x) (shortL x) = true := sameL_iff.mpr rfl
  rw [hsame] at hSS
  rw [right_eq] at hRT
  have hpe := print_eq (shortL x)
  clear x1 x2 x3 x4 hsame
  generalize pPrint (shortL x) = px at *
  generalize rRight (shortL x) = rx at *
  generalize rText (shortL x) = tx at *
  generalize hX : shortL x = sx at *
  clear hX
  obtain ⟨nm, n, l, ⟨col, op, arg, nt⟩, has, whole, each, pat, wth⟩ := x
  obtain ⟨vnm, vn, vl, ⟨vcol, vop, varg, vnt⟩, vhas, vwhole, veach, vpat, vwth⟩ := sx
  have hbx : BoxW w.heap.size A c ⟨nm, n, l, ⟨col, op, arg, nt⟩, has, whole, each, pat, wth⟩ (w.alloc (.cells #[.int .i64 nm, .int .i64 n, .slice A l.length c, .int .i64 col, .int .i64 op, .string arg, .bool nt, .bool has, .bool whole, .bool each, .string pat, .string wth] 26)) := by
    unfold BoxW Box; simp [go_sem]
  have HBX := Lib.hid hbx; clear hbx
  unfold vL at *
  simp only at *
  cases rx
  · obtain rfl : px = [] := hpe
    clear hTX hPA hOX hSS
    go_enter Tryz.func3, Tryz.ntmps3
    go_upto_region 1 with fail
    obtain ⟨W, hWe⟩ : ∃ W, W = w.alloc (.cells #[.int .i64 nm, .int .i64 n, .slice A l.length c, .int .i64 col, .int .i64 op, .string arg, .bool nt, .bool has, .bool whole, .bool each, .string pat, .string wth] 26) := ⟨_, rfl⟩
    have HB := Lib.hid (below_box w (.cells #[.int .i64 nm, .int .i64 n, .slice A l.length c, .int .i64 col, .int .i64 op, .string arg, .bool nt, .bool has, .bool whole, .bool each, .string pat, .string wth] 26))
    rw [← hWe] at HBX HB
    rw [← hWe]
    clear hWe
    go_cut [] (fun wx => Box w.heap.size 26 A c ⟨vnm, vn, vl, ⟨vcol, vop, varg, vnt⟩, vhas, vwhole, veach, vpat, vwth⟩ wx ∧ Below w.heap.size w wx)
    case first =>
      clear hRX hRT hMX hPX hAW
      obtain ⟨⟨a0, a1, a2, a3, a4, a5, a6, a7, a8, a9, a10, a11⟩, fa⟩ := HBX.out
      simp only at a0 a1 a2 a3 a4 a5 a6 a7 a8 a9 a10 a11
      go_wp2_with (go_at_call 7; (with_reducible refine (hsx _).mono ?_); rintro e w2 ⟨rfl, hb2⟩; have HB2 := Lib.hid hb2; clear a0 a1 a2 a3 a4 a5 a6 a7 a8 a9 a10 a11 fa; obtain ⟨⟨a0, a1, a2, a3, a4, a5, a6, a7, a8, a9, a10, a11⟩, fa⟩ := HBX.out.keep hb2; simp only at a0 a1 a2 a3 a4 a5 a6 a7 a8 a9 a10 a11; clear hb2)
      go_meet
      have q2 := keep_below HB.out HB2.out HB.out.size
      refine ⟨?_, ?_⟩
      · unfold Box; simp [go_sem, a0, a1, a2, a3, a4, a5, a6, a7, a8, a9, a10, a11, fa]
      · (iterate 12 (refine below_set ?_ (by omega)))
        exact q2
    case rest =>
      obtain ⟨hx, hbw⟩ := hcut
      clear hsx HBX HB
      have HX := Lib.hid hx; have HBW := Lib.hid hbw
      have HRX1 := Lib.hid (HRX.out.keep hbw)
      have HMC := Lib.hid (keep_cell hbw HM.out)
      clear hbw hx HRX HM
      obtain ⟨a0, a1, a2, a3, a4, a5, a6, a7, a8, a9, a10, a11⟩ := HX.out
      simp only at a0 a1 a2 a3 a4 a5 a6 a7 a8 a9 a10 a11
      have z0 : (bs []).toList = [] := by rw [toList_L, bs_L]
      have z1 : (bs []).toList.isEmpty = true := by rw [z0]; rfl
      go_wp2_with (first | (go_at_call 8; (with_reducible refine (hRX _ ?hr).mono ?_); (case hr => first | assumption | exact HRX1.out | exact HMC.out | (go_split_ands; assumption)); rintro e w2 ⟨rfl, hb⟩; have HBW := Lib.hid (keep_below HBW.out hb HBW.out.size); have HMC := Lib.hid (keep_cell hb HMC.out); have HRX1 := Lib.hid (HRX1.out.keep hb); have HX := Lib.hid (HX.out.keep hb); clear a0 a1 a2 a3 a4 a5 a6 a7 a8 a9 a10 a11; obtain ⟨a0, a1, a2, a3, a4, a5, a6, a7, a8, a9, a10, a11⟩ := HX.out; simp only at a0 a1 a2 a3 a4 a5 a6 a7 a8 a9 a10 a11) | (go_at_call 11; (with_reducible refine (hMX _ ?hr).mono ?_); (case hr => first | assumption | exact HRX1.out | exact HMC.out | (go_split_ands; assumption)); rintro e w2 ⟨A4, c4, rfl, hr4, hb⟩; have HBW := Lib.hid (keep_below HBW.out hb HBW.out.size); have HMC := Lib.hid (keep_cell hb HMC.out); have HRX1 := Lib.hid (HRX1.out.keep hb); have HX := Lib.hid (HX.out.keep hb); clear a0 a1 a2 a3 a4 a5 a6 a7 a8 a9 a10 a11; obtain ⟨a0, a1, a2, a3, a4, a5, a6, a7, a8, a9, a10, a11⟩ := HX.out; simp only at a0 a1 a2 a3 a4 a5 a6 a7 a8 a9 a10 a11) | (go_at_call 10; (with_reducible refine (hRT _ _ _ ?hr).mono ?_); (case hr => first | assumption | exact HRX1.out | exact HMC.out | (go_split_ands; assumption)); rintro e w2 ⟨rfl, hb⟩; have HBW := Lib.hid (keep_below HBW.out hb HBW.out.size); have HMC := Lib.hid (keep_cell hb HMC.out); have HRX1 := Lib.hid (HRX1.out.keep hb); have HX := Lib.hid (HX.out.keep hb); clear a0 a1 a2 a3 a4 a5 a6 a7 a8 a9 a10 a11; obtain ⟨a0, a1, a2, a3, a4, a5, a6, a7, a8, a9, a10, a11⟩ := HX.out; simp only at a0 a1 a2 a3 a4 a5 a6 a7 a8 a9 a10 a11) | (go_at_call 12; (with_reducible refine (hPX _ _ _ ?hr).mono ?_); (case hr => first | assumption | exact HRX1.out | exact HMC.out | (go_split_ands; assumption)); rintro e w2 ⟨rfl, hb⟩; have HBW := Lib.hid (keep_below HBW.out hb HBW.out.size); have HMC := Lib.hid (keep_cell hb HMC.out); have HRX1 := Lib.hid (HRX1.out.keep hb); have HX := Lib.hid (HX.out.keep hb); clear a0 a1 a2 a3 a4 a5 a6 a7 a8 a9 a10 a11; obtain ⟨a0, a1, a2, a3, a4, a5, a6, a7, a8, a9, a10, a11⟩ := HX.out; simp only at a0 a1 a2 a3 a4 a5 a6 a7 a8 a9 a10 a11) | (go_at_call 13; (with_reducible refine (hAW _ ?hr).mono ?_); (case hr => first | assumption | exact HRX1.out | exact HMC.out | (go_split_ands; assumption)); rintro e w2 ⟨rfl, hb⟩; have HBW := Lib.hid (keep_below HBW.out hb HBW.out.size); have HMC := Lib.hid (keep_cell hb HMC.out); have HRX1 := Lib.hid (HRX1.out.keep hb); have HX := Lib.hid (HX.out.keep hb); clear a0 a1 a2 a3 a4 a5 a6 a7 a8 a9 a10 a11; obtain ⟨a0, a1, a2, a3, a4, a5, a6, a7, a8, a9, a10, a11⟩ := HX.out; simp only at a0 a1 a2 a3 a4 a5 a6 a7 a8 a9 a10 a11))
      go_ret
      exact ⟨rfl, HBW.out⟩
  · obtain rfl : px = tx := hpe
    have hTX2 := hTX rfl
    have hPA2 := hPA rfl
    clear hTX hPA
    go_enter Tryz.func3, Tryz.ntmps3
    go_upto_region 1 with fail
    obtain ⟨W, hWe⟩ : ∃ W, W = w.alloc (.cells #[.int .i64 nm, .int .i64 n, .slice A l.length c, .int .i64 col, .int .i64 op, .string arg, .bool nt, .bool has, .bool whole, .bool each, .string pat, .string wth] 26) := ⟨_, rfl⟩
    have HB := Lib.hid (below_box w (.cells #[.int .i64 nm, .int .i64 n, .slice A l.length c, .int .i64 col, .int .i64 op, .string arg, .bool nt, .bool has, .bool whole, .bool each, .string pat, .string wth] 26))
    rw [← hWe] at HBX HB
    rw [← hWe]
    clear hWe
    go_cut [] (fun wx => Box w.heap.size 26 A c ⟨vnm, vn, vl, ⟨vcol, vop, varg, vnt⟩, vhas, vwhole, veach, vpat, vwth⟩ wx ∧ Below w.heap.size w wx)
    case first =>
      clear hRX hRT hMX hPX hAW hTX2 hPA2 hOX hSS
      obtain ⟨⟨a0, a1, a2, a3, a4, a5, a6, a7, a8, a9, a10, a11⟩, fa⟩ := HBX.out
      simp only at a0 a1 a2 a3 a4 a5 a6 a7 a8 a9 a10 a11
      go_wp2_with (go_at_call 7; (with_reducible refine (hsx _).mono ?_); rintro e w2 ⟨rfl, hb2⟩; have HB2 := Lib.hid hb2; clear a0 a1 a2 a3 a4 a5 a6 a7 a8 a9 a10 a11 fa; obtain ⟨⟨a0, a1, a2, a3, a4, a5, a6, a7, a8, a9, a10, a11⟩, fa⟩ := HBX.out.keep hb2; simp only at a0 a1 a2 a3 a4 a5 a6 a7 a8 a9 a10 a11; clear hb2)
      go_meet
      have q2 := keep_below HB.out HB2.out HB.out.size
      refine ⟨?_, ?_⟩
      · unfold Box; simp [go_sem, a0, a1, a2, a3, a4, a5, a6, a7, a8, a9, a10, a11, fa]
      · (iterate 12 (refine below_set ?_ (by omega)))
        exact q2
    case rest =>
      obtain ⟨hx, hbw⟩ := hcut
      clear hsx HBX HB
      have HX := Lib.hid hx; have HBW := Lib.hid hbw
      have HRX1 := Lib.hid (HRX.out.keep hbw)
      have HMC := Lib.hid (keep_cell hbw HM.out)
      clear hbw hx HRX HM
      obtain ⟨a0, a1, a2, a3, a4, a5, a6, a7, a8, a9, a10, a11⟩ := HX.out
      simp only at a0 a1 a2 a3 a4 a5 a6 a7 a8 a9 a10 a11
      go_upto_region 11 with (first | (go_at_call 8; (with_reducible refine (hRX _ ?hr).mono ?_); (case hr => first | assumption | exact HRX1.out | exact HMC.out | (go_split_ands; assumption)); rintro e w2 ⟨rfl, hb⟩; have HBW := Lib.hid (keep_below HBW.out hb HBW.out.size); have HMC := Lib.hid (keep_cell hb HMC.out); have HRX1 := Lib.hid (HRX1.out.keep hb); have HX := Lib.hid (HX.out.keep hb); clear a0 a1 a2 a3 a4 a5 a6 a7 a8 a9 a10 a11; obtain ⟨a0, a1, a2, a3, a4, a5, a6, a7, a8, a9, a10, a11⟩ := HX.out; simp only at a0 a1 a2 a3 a4 a5 a6 a7 a8 a9 a10 a11) | (go_at_call 9; (with_reducible refine (hTX2 _ ?hr).mono ?_); (case hr => first | assumption | exact HRX1.out | exact HMC.out | (go_split_ands; assumption)); rintro e w2 ⟨rfl, hb⟩; have HBW := Lib.hid (keep_below HBW.out hb HBW.out.size); have HMC := Lib.hid (keep_cell hb HMC.out); have HRX1 := Lib.hid (HRX1.out.keep hb); have HX := Lib.hid (HX.out.keep hb); clear a0 a1 a2 a3 a4 a5 a6 a7 a8 a9 a10 a11; obtain ⟨a0, a1, a2, a3, a4, a5, a6, a7, a8, a9, a10, a11⟩ := HX.out; simp only at a0 a1 a2 a3 a4 a5 a6 a7 a8 a9 a10 a11) | (go_at_call 11; (with_reducible refine (hMX _ ?hr).mono ?_); (case hr => first | assumption | exact HRX1.out | exact HMC.out | (go_split_ands; assumption)); rintro e w2 ⟨A4, c4, rfl, hr4, hb⟩; have HBW := Lib.hid (keep_below HBW.out hb HBW.out.size); have HMC := Lib.hid (keep_cell hb HMC.out); have HRX1 := Lib.hid (HRX1.out.keep hb); have HX := Lib.hid (HX.out.keep hb); clear a0 a1 a2 a3 a4 a5 a6 a7 a8 a9 a10 a11; obtain ⟨a0, a1, a2, a3, a4, a5, a6, a7, a8, a9, a10, a11⟩ := HX.out; simp only at a0 a1 a2 a3 a4 a5 a6 a7 a8 a9 a10 a11) | (go_at_call 10; (with_reducible refine (hRT _ _ _ ?hr).mono ?_); (case hr => first | assumption | exact HRX1.out | exact HMC.out | (go_split_ands; assumption)); rintro e w2 ⟨rfl, hb⟩; have HBW := Lib.hid (keep_below HBW.out hb HBW.out.size); have HMC := Lib.hid (keep_cell hb HMC.out); have HRX1 := Lib.hid (HRX1.out.keep hb); have HX := Lib.hid (HX.out.keep hb); clear a0 a1 a2 a3 a4 a5 a6 a7 a8 a9 a10 a11; obtain ⟨a0, a1, a2, a3, a4, a5, a6, a7, a8, a9, a10, a11⟩ := HX.out; simp only at a0 a1 a2 a3 a4 a5 a6 a7 a8 a9 a10 a11) | (go_at_call 12; (with_reducible refine (hPX _ _ _ ?hr).mono ?_); (case hr => first | assumption | exact HRX1.out | exact HMC.out | (go_split_ands; assumption)); rintro e w2 ⟨rfl, hb⟩; have HBW := Lib.hid (keep_below HBW.out hb HBW.out.size); have HMC := Lib.hid (keep_cell hb HMC.out); have HRX1 := Lib.hid (HRX1.out.keep hb); have HX := Lib.hid (HX.out.keep hb); clear a0 a1 a2 a3 a4 a5 a6 a7 a8 a9 a10 a11; obtain ⟨a0, a1, a2, a3, a4, a5, a6, a7, a8, a9, a10, a11⟩ := HX.out; simp only at a0 a1 a2 a3 a4 a5 a6 a7 a8 a9 a10 a11) | (go_at_call 14; (with_reducible refine (hPA2 _ ?hr).mono ?_); (case hr => first | assumption | exact HRX1.out | exact HMC.out | (go_split_ands; assumption)); rintro e w2 ⟨A5, c5, rfl, hr5, hb⟩; have HR5 := Lib.hid hr5; have HBY := Lib.hid hb; have HBW := Lib.hid (keep_below HBW.out hb HBW.out.size); have HMC := Lib.hid (keep_cell hb HMC.out); have HRX1 := Lib.hid (HRX1.out.keep hb); have HX := Lib.hid (HX.out.keep hb); clear a0 a1 a2 a3 a4 a5 a6 a7 a8 a9 a10 a11; obtain ⟨a0, a1, a2, a3, a4, a5, a6, a7, a8, a9, a10, a11⟩ := HX.out; simp only at a0 a1 a2 a3 a4 a5 a6 a7 a8 a9 a10 a11))
      obtain ⟨W2, hWe⟩ : ∃ W2, W2 = w2.alloc (.cells #[.int .i64 vnm, .int .i64 vn, .slice A5 vl.length c5, .int .i64 vcol, .int .i64 vop, .string varg, .bool vnt, .bool vhas, .bool vwhole, .bool veach, .string vpat, .string vwth] 34) := ⟨_, rfl⟩
      have hb := below_box w2 (.cells #[.int .i64 vnm, .int .i64 vn, .slice A5 vl.length c5, .int .i64 vcol, .int .i64 vop, .string varg, .bool vnt, .bool vhas, .bool vwhole, .bool veach, .string vpat, .string vwth] 34)
      rw [← hWe] at hb
      have q3 := keep_below HBW.out hb HBW.out.size
      have m3 := keep_cell hb HMC.out
      have r3 := HRX1.out.keep hb
      have s3 := HR5.out.keep hb
      have hyb : Box w2.heap.size 34 A5 c5 ⟨vnm, vn, vl, ⟨vcol, vop, varg, vnt⟩, vhas, vwhole, veach, vpat, vwth⟩ W2 := by rw [hWe]; unfold Box; simp [go_sem]
      rw [← hWe]
      clear a0 a1 a2 a3 a4 a5 a6 a7 a8 a9 a10 a11 hWe
      obtain ⟨a0, a1, a2, a3, a4, a5, a6, a7, a8, a9, a10, a11⟩ := HX.out.keep hb
      obtain ⟨b0, b1, b2, b3, b4, b5, b6, b7, b8, b9, b10, b11⟩ := hyb
      simp only at a0 a1 a2 a3 a4 a5 a6 a7 a8 a9 a10 a11 b0 b1 b2 b3 b4 b5 b6 b7 b8 b9 b10 b11
      clear hb HX HBW HRX1 HMC hRX hRT hMX hPX hTX2 hPA2 HBY
      go_region_held3 (fun w' => w'.cell? ⟨w.heap.size, 0, none⟩ = some (.int .i64 vnm) ∧ w'.cell? ⟨w.heap.size, 1, none⟩ = some (.int .i64 vn) ∧ w'.cell? ⟨w.heap.size, 2, none⟩ = some (.slice A vl.length c) ∧ w'.cell? ⟨w.heap.size, 3, none⟩ = some (.int .i64 vcol) ∧ w'.cell? ⟨w.heap.size, 4, none⟩ = some (.int .i64 vop) ∧ w'.cell? ⟨w.heap.size, 5, none⟩ = some (.string varg) ∧ w'.cell? ⟨w.heap.size, 6, none⟩ = some (.bool vnt) ∧ w'.cell? ⟨w.heap.size, 7, none⟩ = some (.bool vhas) ∧ w'.cell? ⟨w.heap.size, 8, none⟩ = some (.bool vwhole) ∧ w'.cell? ⟨w.heap.size, 9, none⟩ = some (.bool veach) ∧ w'.cell? ⟨w.heap.size, 10, none⟩ = some (.string vpat) ∧ w'.cell? ⟨w.heap.size, 11, none⟩ = some (.string vwth) ∧ w'.cell? ⟨w2.heap.size, 0, none⟩ = some (.int .i64 vnm) ∧ w'.cell? ⟨w2.heap.size, 1, none⟩ = some (.int .i64 vn) ∧ w'.cell? ⟨w2.heap.size, 2, none⟩ = some (.slice A5 vl.length c5) ∧ w'.cell? ⟨w2.heap.size, 3, none⟩ = some (.int .i64 vcol) ∧ w'.cell? ⟨w2.heap.size, 4, none⟩ = some (.int .i64 vop) ∧ w'.cell? ⟨w2.heap.size, 5, none⟩ = some (.string varg) ∧ w'.cell? ⟨w2.heap.size, 6, none⟩ = some (.bool vnt) ∧ w'.cell? ⟨w2.heap.size, 7, none⟩ = some (.bool vhas) ∧ w'.cell? ⟨w2.heap.size, 8, none⟩ = some (.bool vwhole) ∧ w'.cell? ⟨w2.heap.size, 9, none⟩ = some (.bool veach) ∧ w'.cell? ⟨w2.heap.size, 10, none⟩ = some (.string vpat) ∧ w'.cell? ⟨w2.heap.size, 11, none⟩ = some (.string vwth) ∧ w'.cell? ⟨0, 0, none⟩ = some (.int .i64 m) ∧ RB w' A vl ∧ RB w' A5 vl ∧ Below w.heap.size w w')
        ((go_split_ands; refine ⟨?_, ?_, ?_, ?_, ?_, ?_, ?_, ?_, ?_, ?_, ?_, ?_, ?_, ?_, ?_, ?_, ?_, ?_, ?_, ?_, ?_, ?_, ?_, ?_, ?_, ?_, ?_, ?_⟩ <;> first | assumption | exact Below.drew (by assumption) | exact keep_cell hb (by assumption) | exact RB.keep (by assumption) hb | exact keep_below (by assumption) hb (by first | assumption | exact Below.size (by assumption))))
        (first
          | (go_at_call 16; (with_reducible refine (hOX _ _ _ ?hr).mono ?_); (case hr => first | assumption | (go_split_ands; assumption)); rintro e w4 ⟨A6, c6, rfl, hr6, hb⟩)
          | (go_at_call 15; (with_reducible refine (hSS _ _ _ ?hr ?hq).mono ?_); (case hr => first | assumption | (go_split_ands; assumption)); (case hq => first | assumption | (go_split_ands; assumption)); rintro e w8 ⟨rfl, hb⟩)
          | (go_at_call 13; (with_reducible refine (hAW _ ?hr).mono ?_); (case hr => first | assumption | (go_split_ands; assumption)); rintro e w9 ⟨rfl, hb⟩))
      go_wp2_with fail
      go_ret
      go_split_ands
      exact ⟨rfl, by assumption⟩
end Go.Proofs.YtckmkhcahnijmaaGreatDoor
