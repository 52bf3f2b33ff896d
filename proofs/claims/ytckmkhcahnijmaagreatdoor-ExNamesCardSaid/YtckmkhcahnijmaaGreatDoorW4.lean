/- The walk of the statement ExApart. -/
import Derived.Test.YtckmkhcahnijmaaGreatDoorW3
import Derived.Deep.RegionWith
namespace Go.Proofs.YtckmkhcahnijmaaGreatDoor
open Go.RowKit
set_option linter.unusedVariables false
set_option linter.unusedSimpArgs false

/-- A line lies in a variable that may be written. -/
def BoxW (b : Nat) (A : Option Addr) (c : Nat) (x : Ln) (w : World) : Prop := Box b 26 A c x w ∧ ∀ o, w.frozen? ⟨b, o, none⟩ = false
theorem BoxW.keep {b : Nat} {A : Option Addr} {c : Nat} {x : Ln} {w w1 : World} (h : BoxW b A c x w) (hb : Below w.heap.size w w1) : BoxW b A c x w1 :=
  ⟨h.1.keep hb, fun o => ((bcell hb).2 _ _ (World.block_lt_of_cell? _ _ h.1.1)).trans (h.2 o)⟩
theorem BoxW.drew {b : Nat} {A : Option Addr} {c : Nat} {x : Ln} {w : World} (h : BoxW b A c x w) : BoxW b A c x w.drew := h
theorem print_same {x y : Ln} (hx : rRight x = true) (hy : rRight y = true) : ((bs (pPrint x)).toList == (bs (pPrint y)).toList) = sameL x y := by
  rw [toList_L, toList_L, bs_L, bs_L, print_eq, print_eq, if_pos hx, if_pos hy, Bool.eq_iff_iff, beq_iff_eq, sameL_iff]
  rw [rRight, Bool.and_eq_true] at hx hy
  exact ⟨fun h => rText_inj (rfits_fit hx.1) (rfits_fit hy.1) h, fun h => by rw [h]⟩

set_option maxRecDepth 100000 in
set_option maxHeartbeats 4000000 in
theorem apart_law (A A' : Option Addr) (c c' : Nat) (x y : Ln) (m : Int) (w : World) (hm : w.cell? ⟨0, 0, none⟩ = some (.int .i64 m)) (hl : x.bys.length ≤ c) (hl' : y.bys.length ≤ c') (hr : RB w A x.bys) (hr' : RB w A' y.bys) :
    Calls Tryz.prog 5 #[vL A c x, vL A' c' y] w fun e w' => e = .returned (.bool true) ∧ Below w.heap.size w w' := by
  have hsx := fun W => short_any A c x W hl
  have hsy := fun W => short_any A' c' y W hl'
  have hrx : RB w A (shortL x).bys := hr.take 6
  have hry : RB w A' (shortL y).bys := hr'.take 6
  have HRX := Lib.hid hrx; have HRY := Lib.hid hry; clear hrx hry hr hr'
  have HM := Lib.hid hm; clear hm
  obtain ⟨x1, x2, x3, x4⟩ := short_small x
  obtain ⟨y1, y2, y3, y4⟩ := short_small y
  have hRX := fun W h => rright_any A c (shortL x) W (by omega) h (by omega) (by omega) (by omega)
  have hRY := fun W h => rright_any A' c' (shortL y) W (by omega) h (by omega) (by omega) (by omega)
  have hMX := fun W h => mine_any A c (shortL x) W (by omega) h
  have hMY := fun W h => mine_any A' c' (shortL y) W (by omega) h
  have hPX := fun B d W h => print_any B d (shortL x) W (by omega) h (by omega) (by omega) (by omega)
  have hPY := fun B d W h => print_any B d (shortL y) W (by omega) h (by omega) (by omega) (by omega)
  have hSS := fun W h h' => same_any A A' c c' (shortL x) (shortL y) W (by omega) (by omega) h h'
  have hAW := fun W h => awake_any m W h
  have hps : rRight (shortL x) = true → rRight (shortL y) = true → _ := print_same
  have HPS := Lib.hid hps; clear hps
  clear x1 x2 x3 x4 y1 y2 y3 y4
  generalize pPrint (shortL x) = px at *
  generalize pPrint (shortL y) = py at *
  generalize rRight (shortL x) = rx at *
  generalize rRight (shortL y) = ry at *
  generalize sameL (shortL x) (shortL y) = sm at *
  generalize hX : shortL x = sx at *
  generalize hY : shortL y = sy at *
  clear hX hY
  obtain ⟨nm, n, l, ⟨col, op, arg, nt⟩, has, whole, each, pat, wth⟩ := x
  obtain ⟨nm', n', l', ⟨col', op', arg', nt'⟩, has', whole', each', pat', wth'⟩ := y
  obtain ⟨vnm, vn, vl, ⟨vcol, vop, varg, vnt⟩, vhas, vwhole, veach, vpat, vwth⟩ := sx
  obtain ⟨unm, un, ul, ⟨ucol, uop, uarg, unt⟩, uhas, uwhole, ueach, upat, uwth⟩ := sy
  have hbx : BoxW w.heap.size A c ⟨nm, n, l, ⟨col, op, arg, nt⟩, has, whole, each, pat, wth⟩ ((w.alloc (.cells #[.int .i64 nm, .int .i64 n, .slice A l.length c, .int .i64 col, .int .i64 op, .string arg, .bool nt, .bool has, .bool whole, .bool each, .string pat, .string wth] 26)).alloc (.cells #[.int .i64 nm', .int .i64 n', .slice A' l'.length c', .int .i64 col', .int .i64 op', .string arg', .bool nt', .bool has', .bool whole', .bool each', .string pat', .string wth'] 26)) := by
    unfold BoxW Box; simp [go_sem]
  have hby : BoxW (w.heap.size + 1) A' c' ⟨nm', n', l', ⟨col', op', arg', nt'⟩, has', whole', each', pat', wth'⟩ ((w.alloc (.cells #[.int .i64 nm, .int .i64 n, .slice A l.length c, .int .i64 col, .int .i64 op, .string arg, .bool nt, .bool has, .bool whole, .bool each, .string pat, .string wth] 26)).alloc (.cells #[.int .i64 nm', .int .i64 n', .slice A' l'.length c', .int .i64 col', .int .i64 op', .string arg', .bool nt', .bool has', .bool whole', .bool each', .string pat', .string wth'] 26)) := by
    unfold BoxW Box; simp [go_sem]
  have HBX := Lib.hid hbx; have HBY := Lib.hid hby; clear hbx hby
  unfold vL at *
  simp only at *
  go_enter Tryz.func5, Tryz.ntmps5
  go_upto_region 1 with fail
  obtain ⟨W, hWe⟩ : ∃ W, W = (w.alloc (.cells #[.int .i64 nm, .int .i64 n, .slice A l.length c, .int .i64 col, .int .i64 op, .string arg, .bool nt, .bool has, .bool whole, .bool each, .string pat, .string wth] 26)).alloc (.cells #[.int .i64 nm', .int .i64 n', .slice A' l'.length c', .int .i64 col', .int .i64 op', .string arg', .bool nt', .bool has', .bool whole', .bool each', .string pat', .string wth'] 26) := ⟨_, rfl⟩
  have HB := Lib.hid (below_box2 w (.cells #[.int .i64 nm, .int .i64 n, .slice A l.length c, .int .i64 col, .int .i64 op, .string arg, .bool nt, .bool has, .bool whole, .bool each, .string pat, .string wth] 26) (.cells #[.int .i64 nm', .int .i64 n', .slice A' l'.length c', .int .i64 col', .int .i64 op', .string arg', .bool nt', .bool has', .bool whole', .bool each', .string pat', .string wth'] 26))
  have hs : W.heap.size = w.heap.size + 2 := by rw [hWe]; simp
  rw [← hWe] at HBX HBY HB
  rw [← hWe]
  clear hWe
  have HS := Lib.hid hs; clear hs
  go_cut [] (fun wx => Box w.heap.size 26 A c ⟨vnm, vn, vl, ⟨vcol, vop, varg, vnt⟩, vhas, vwhole, veach, vpat, vwth⟩ wx ∧ Box (w.heap.size + 1) 26 A' c' ⟨unm, un, ul, ⟨ucol, uop, uarg, unt⟩, uhas, uwhole, ueach, upat, uwth⟩ wx ∧ Below w.heap.size w wx)
  case first =>
    clear hRX hRY hMX hMY hPX hPY hSS hAW
    obtain ⟨⟨a0, a1, a2, a3, a4, a5, a6, a7, a8, a9, a10, a11⟩, fa⟩ := HBX.out
    obtain ⟨⟨b0, b1, b2, b3, b4, b5, b6, b7, b8, b9, b10, b11⟩, fb⟩ := HBY.out
    simp only at a0 a1 a2 a3 a4 a5 a6 a7 a8 a9 a10 a11 b0 b1 b2 b3 b4 b5 b6 b7 b8 b9 b10 b11
    go_region_with (first
      | (go_at_call 7; (with_reducible refine (hsx _).mono ?_); rintro e w2 ⟨rfl, hb2⟩; replace hb2 := undrew hb2; have HB2 := Lib.hid hb2; clear a0 a1 a2 a3 a4 a5 a6 a7 a8 a9 a10 a11 b0 b1 b2 b3 b4 b5 b6 b7 b8 b9 b10 b11 fa fb; obtain ⟨⟨a0, a1, a2, a3, a4, a5, a6, a7, a8, a9, a10, a11⟩, fa⟩ := HBX.out.keep hb2; obtain ⟨⟨b0, b1, b2, b3, b4, b5, b6, b7, b8, b9, b10, b11⟩, fb⟩ := HBY.out.keep hb2; simp only at a0 a1 a2 a3 a4 a5 a6 a7 a8 a9 a10 a11 b0 b1 b2 b3 b4 b5 b6 b7 b8 b9 b10 b11; clear hb2)
      | (go_at_call 7; (with_reducible refine (hsy _).mono ?_); rintro e w3 ⟨rfl, hb3⟩; have HB3 := Lib.hid hb3; clear a0 a1 a2 a3 a4 a5 a6 a7 a8 a9 a10 a11 b0 b1 b2 b3 b4 b5 b6 b7 b8 b9 b10 b11 fa fb; obtain ⟨⟨a0, a1, a2, a3, a4, a5, a6, a7, a8, a9, a10, a11⟩, fa⟩ := (HBX.out.keep HB2.out).keep hb3; obtain ⟨⟨b0, b1, b2, b3, b4, b5, b6, b7, b8, b9, b10, b11⟩, fb⟩ := (HBY.out.keep HB2.out).keep hb3; simp only at a0 a1 a2 a3 a4 a5 a6 a7 a8 a9 a10 a11 b0 b1 b2 b3 b4 b5 b6 b7 b8 b9 b10 b11; clear hb3))
    all_goals
      go_wp2_with fail
      go_meet
      have q2 := keep_below HB.out HB2.out HB.out.size
      have q3 := keep_below q2 HB3.out q2.size
      refine ⟨?_, ?_, ?_⟩
      · unfold Box; simp [go_sem, a0, a1, a2, a3, a4, a5, a6, a7, a8, a9, a10, a11, b0, b1, b2, b3, b4, b5, b6, b7, b8, b9, b10, b11, fa, fb]
      · unfold Box; simp [go_sem, a0, a1, a2, a3, a4, a5, a6, a7, a8, a9, a10, a11, b0, b1, b2, b3, b4, b5, b6, b7, b8, b9, b10, b11, fa, fb]
      · (iterate 24 (refine below_set ?_ (by omega)))
        exact q3
  case rest =>
    obtain ⟨hx, hy, hbw⟩ := hcut
    clear hsx hsy HBX HBY HB HS
    have HX := Lib.hid hx; have HY := Lib.hid hy; have HBW := Lib.hid hbw
    have HRX1 := Lib.hid (HRX.out.keep hbw); have HRY1 := Lib.hid (HRY.out.keep hbw)
    have HMC := Lib.hid (keep_cell hbw HM.out)
    clear hbw hx hy HRX HRY HM
    obtain ⟨a0, a1, a2, a3, a4, a5, a6, a7, a8, a9, a10, a11⟩ := HX.out
    obtain ⟨b0, b1, b2, b3, b4, b5, b6, b7, b8, b9, b10, b11⟩ := HY.out
    simp only at a0 a1 a2 a3 a4 a5 a6 a7 a8 a9 a10 a11 b0 b1 b2 b3 b4 b5 b6 b7 b8 b9 b10 b11
    cases rx
    · clear HPS
      go_wp2_with (first | (go_at_call 8; (with_reducible refine (hRX _ HRX1.out).mono ?_); rintro e w2 ⟨rfl, hb2⟩) | (go_at_call 13; (with_reducible refine (hAW _ (keep_cell hb2 HMC.out)).mono ?_); rintro e w3 ⟨rfl, hb3⟩))
      go_ret
      have q2 := keep_below HBW.out hb2 HBW.out.size
      exact ⟨rfl, keep_below q2 hb3 q2.size⟩
    · cases ry
      · clear HPS
        go_wp2_with (first | (go_at_call 8; (with_reducible refine (hRX _ HRX1.out).mono ?_); rintro e w2 ⟨rfl, hb2⟩; clear a0 a1 a2 a3 a4 a5 a6 a7 a8 a9 a10 a11 b0 b1 b2 b3 b4 b5 b6 b7 b8 b9 b10 b11; obtain ⟨b0, b1, b2, b3, b4, b5, b6, b7, b8, b9, b10, b11⟩ := HY.out.keep hb2; simp only at b0 b1 b2 b3 b4 b5 b6 b7 b8 b9 b10 b11) | (go_at_call 8; (with_reducible refine (hRY _ (HRY1.out.keep hb2)).mono ?_); rintro e w3 ⟨rfl, hb3⟩) | (go_at_call 13; (with_reducible refine (hAW _ (keep_cell hb3 (keep_cell hb2 HMC.out))).mono ?_); rintro e w4 ⟨rfl, hb4⟩))
        go_ret
        have q2 := keep_below HBW.out hb2 HBW.out.size
        have q3 := keep_below q2 hb3 q2.size
        exact ⟨rfl, keep_below q3 hb4 q3.size⟩
      · have heq := HPS.out rfl rfl
        clear HPS
        go_upto_region 4 with (first | (go_at_call 8; (with_reducible refine (hRX _ HRX1.out).mono ?_); rintro e w2 ⟨rfl, hb2⟩; clear a0 a1 a2 a3 a4 a5 a6 a7 a8 a9 a10 a11 b0 b1 b2 b3 b4 b5 b6 b7 b8 b9 b10 b11; obtain ⟨b0, b1, b2, b3, b4, b5, b6, b7, b8, b9, b10, b11⟩ := HY.out.keep hb2; simp only at b0 b1 b2 b3 b4 b5 b6 b7 b8 b9 b10 b11) | (go_at_call 8; (with_reducible refine (hRY _ (HRY1.out.keep hb2)).mono ?_); rintro e w3 ⟨rfl, hb3⟩))
        have q2 := keep_below HBW.out hb2 HBW.out.size
        have q3 := keep_below q2 hb3 q2.size
        have m3 := keep_cell hb3 (keep_cell hb2 HMC.out)
        have r3 := (HRX1.out.keep hb2).keep hb3
        have s3 := (HRY1.out.keep hb2).keep hb3
        clear b0 b1 b2 b3 b4 b5 b6 b7 b8 b9 b10 b11
        obtain ⟨a0, a1, a2, a3, a4, a5, a6, a7, a8, a9, a10, a11⟩ := (HX.out.keep hb2).keep hb3
        obtain ⟨b0, b1, b2, b3, b4, b5, b6, b7, b8, b9, b10, b11⟩ := (HY.out.keep hb2).keep hb3
        simp only at a0 a1 a2 a3 a4 a5 a6 a7 a8 a9 a10 a11 b0 b1 b2 b3 b4 b5 b6 b7 b8 b9 b10 b11
        clear hb2 hb3 q2 HX HY HRX1 HRY1 HMC HBW hRX hRY
        generalize w3 = W3 at *
        go_region_held3 (fun w' => w'.cell? ⟨w.heap.size, 0, none⟩ = some (.int .i64 vnm) ∧ w'.cell? ⟨w.heap.size, 1, none⟩ = some (.int .i64 vn) ∧ w'.cell? ⟨w.heap.size, 2, none⟩ = some (.slice A vl.length c) ∧ w'.cell? ⟨w.heap.size, 3, none⟩ = some (.int .i64 vcol) ∧ w'.cell? ⟨w.heap.size, 4, none⟩ = some (.int .i64 vop) ∧ w'.cell? ⟨w.heap.size, 5, none⟩ = some (.string varg) ∧ w'.cell? ⟨w.heap.size, 6, none⟩ = some (.bool vnt) ∧ w'.cell? ⟨w.heap.size, 7, none⟩ = some (.bool vhas) ∧ w'.cell? ⟨w.heap.size, 8, none⟩ = some (.bool vwhole) ∧ w'.cell? ⟨w.heap.size, 9, none⟩ = some (.bool veach) ∧ w'.cell? ⟨w.heap.size, 10, none⟩ = some (.string vpat) ∧ w'.cell? ⟨w.heap.size, 11, none⟩ = some (.string vwth) ∧ w'.cell? ⟨w.heap.size + 1, 0, none⟩ = some (.int .i64 unm) ∧ w'.cell? ⟨w.heap.size + 1, 1, none⟩ = some (.int .i64 un) ∧ w'.cell? ⟨w.heap.size + 1, 2, none⟩ = some (.slice A' ul.length c') ∧ w'.cell? ⟨w.heap.size + 1, 3, none⟩ = some (.int .i64 ucol) ∧ w'.cell? ⟨w.heap.size + 1, 4, none⟩ = some (.int .i64 uop) ∧ w'.cell? ⟨w.heap.size + 1, 5, none⟩ = some (.string uarg) ∧ w'.cell? ⟨w.heap.size + 1, 6, none⟩ = some (.bool unt) ∧ w'.cell? ⟨w.heap.size + 1, 7, none⟩ = some (.bool uhas) ∧ w'.cell? ⟨w.heap.size + 1, 8, none⟩ = some (.bool uwhole) ∧ w'.cell? ⟨w.heap.size + 1, 9, none⟩ = some (.bool ueach) ∧ w'.cell? ⟨w.heap.size + 1, 10, none⟩ = some (.string upat) ∧ w'.cell? ⟨w.heap.size + 1, 11, none⟩ = some (.string uwth) ∧ w'.cell? ⟨0, 0, none⟩ = some (.int .i64 m) ∧ RB w' A vl ∧ RB w' A' ul ∧ Below w.heap.size w w')
          ((go_split_ands; refine ⟨?_, ?_, ?_, ?_, ?_, ?_, ?_, ?_, ?_, ?_, ?_, ?_, ?_, ?_, ?_, ?_, ?_, ?_, ?_, ?_, ?_, ?_, ?_, ?_, ?_, ?_, ?_, ?_⟩ <;> first | assumption | exact Below.drew (by assumption) | exact keep_cell hb (by assumption) | exact RB.keep (by assumption) hb | exact keep_below (by assumption) hb (by first | assumption | exact Below.size (by assumption))))
          (first
            | (go_at_call 11; (with_reducible refine (hMX _ ?hr).mono ?_); (case hr => first | assumption | (go_split_ands; assumption)); rintro e w4 ⟨A4, c4, rfl, hr4, hb⟩)
            | (go_at_call 12; (with_reducible refine (hPX _ _ _ ?hr).mono ?_); (case hr => first | assumption | (go_split_ands; assumption)); rintro e w5 ⟨rfl, hb⟩)
            | (go_at_call 11; (with_reducible refine (hMY _ ?hr).mono ?_); (case hr => first | assumption | (go_split_ands; assumption)); rintro e w6 ⟨A6, c6, rfl, hr6, hb⟩)
            | (go_at_call 12; (with_reducible refine (hPY _ _ _ ?hr).mono ?_); (case hr => first | assumption | (go_split_ands; assumption)); rintro e w7 ⟨rfl, hb⟩)
            | (go_at_call 15; (with_reducible refine (hSS _ ?hr ?hq).mono ?_); (case hr => first | assumption | (go_split_ands; assumption)); (case hq => first | assumption | (go_split_ands; assumption)); rintro e w8 ⟨rfl, hb⟩)
            | (go_at_call 13; (with_reducible refine (hAW _ ?hr).mono ?_); (case hr => first | assumption | (go_split_ands; assumption)); rintro e w9 ⟨rfl, hb⟩))
        go_wp2_with fail
        go_ret
        go_split_ands
        exact ⟨rfl, by assumption⟩
end Go.Proofs.YtckmkhcahnijmaaGreatDoor
