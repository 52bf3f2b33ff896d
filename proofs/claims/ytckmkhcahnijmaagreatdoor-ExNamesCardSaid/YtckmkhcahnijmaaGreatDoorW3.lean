/- The walk of the statements' own function awake. -/
import Derived.Test.YtckmkhcahnijmaaGreatDoorW2
namespace Go.Proofs.YtckmkhcahnijmaaGreatDoor
open Go.RowKit
set_option linter.unusedVariables false
set_option linter.unusedSimpArgs false

theorem parse_text {x : Ln} (hx : Fit x) (hl : (rText x).length ≤ 100) : pParse (rText x) = (x, 0) := by
  rcases fit_text hx with ⟨rfl, e⟩ | ⟨n, n1, n2, rfl, e⟩ | ⟨k, hk, hm, e⟩ | ⟨whole, each, pat, wth, rfl, e⟩
  · rw [e]; exact pParse_yes (s := []) (by simp) (by decide) Fit.none rfl
  · have h := num_notsub n.toNat
    have hr : pRead (rText (lN 1 n)) = (lN 1 (valD 2147483647 0 (rText (lN 1 n))), rText (lN 1 n), true) := by rw [pRead, e, h.1, h.2.1]; rfl
    exact pParse_yes hl (by rw [hr]) hx (by rw [hr])
  · have h := short_parse hx hm hk 8 hl
    rw [List.take_of_length_le (wd_len k), rFull_named, named_wd hk, ← e] at h
    exact h
  · have h := sub_issub whole each pat wth
    have hr : (pRead (rText (lP whole each pat wth))).2 = (rText (lP whole each pat wth), true) := by rw [pRead, e, h.1]; rfl
    exact pParse_yes hl (by rw [hr]) hx (by rw [hr])
theorem numB_2 : numB 2 = [50] := by rw [numB, if_neg (by decide), dgs_pos (by decide), dgs_zero]; rfl
theorem numB_12 : numB 12 = [49, 50] := by rw [numB, if_neg (by decide), dgs_pos (by decide), dgs_pos (by decide), dgs_zero]; rfl
def awX : Ln := lS [(1, true)]
def awY : Ln := lP true true ⟨#[97, 47, 98]⟩ ⟨#[99]⟩
theorem awX_parse : pParse [115, 111, 32, 45, 50] = (awX, 0) := by
  have hk : keysB [(1, true)] = [32, 45, 50] := by
    rw [keysB_cons]
    show [32] ++ ([45] ++ numB 2) ++ [] = _
    rw [numB_2]; rfl
  have ht : tailB awX = [32, 45, 50] := by
    show keysB [(1, true)] ++ ([] ++ []) = _
    rw [hk]; rfl
  have hr : rText awX = wd 2 ++ tailB awX := rText_word (k := 2) rfl (.inl rfl)
  have h := short_parse (x := awX) (Fit.sort _ rfl) (m := 2) rfl (.inl rfl) 1 (by rw [hr, ht]; decide)
  rw [ht, show (rFull ((wd 2).take (1 + 1))).2 = true by decide, if_pos rfl] at h
  exact h
theorem awY_parse : pParse [37, 115, 47, 97, 92, 47, 98, 47, 99, 47, 103] = (awY, 0) :=
  parse_text (x := awY) (Fit.subst _ _ _ _ (by intro h; have := congrArg ByteArray.size h; revert this; decide) rfl rfl) (by decide)
theorem awZ_print : pPrint (lN 1 12) = [49, 50] := by
  have hf := Fit.goto 12 (by decide) (by decide)
  have ht : rText (lN 1 12) = [49, 50] := numB_12
  rw [print_eq, rRight, fit_rfits hf, ht]; rfl

theorem in_by2 (a c : Int) (b d : Bool) (w : World) : (Op.equalIn 10000 57 (.agg #[.int .i64 a, .bool b]) (.agg #[.int .i64 c, .bool d])).run Tryz.prog w = .ok (a == c && b == d) w := by
  have u3 := Tryz.underlying3
  have a3 := Tryz.isAgg3
  have z3 := Tryz.sizeOf3
  have u4 := Tryz.underlying4
  have a4 := Tryz.isAgg4
  have z4 := Tryz.sizeOf4
  have hS : Tryz.prog.underlying 57 = some (.struct (Tryz.prog.fieldsOf 57)) := by kernel_rfl
  have hp : Tryz.prog.stoodInHeld 57 = false := by kernel_rfl
  rw [show (10000 : Nat) = 9999 + 1 from rfl, run_equalIn_agg w 9999 57 _ _ hS hp]
  simp only [Program.fieldsOf, Tryz.underlying57]
  go_simp
  by_cases h1 : a = c <;> by_cases h2 : b = d <;> simp [h1, h2]
theorem eql_by2 (a c : Int) (b d : Bool) (w : World) : (binOp .eql 57 (.agg #[.int .i64 a, .bool b]) (.agg #[.int .i64 c, .bool d])).run Tryz.prog w = .ok (.bool (a == c && b == d)) w := by
  rw [run_eql_struct, in_by2]; rfl
theorem grd_by2 : Tryz.prog.eqGuardType Tryz.prog.depth 57 = false := by kernel_rfl

set_option maxRecDepth 100000 in
set_option maxHeartbeats 2000000 in
theorem awake_any (m : Int) (w : World) (hm : w.cell? ⟨0, 0, none⟩ = some (.int .i64 m)) :
    Calls Tryz.prog 13 #[] w fun e w' => e = .returned (.bool true) ∧ Below w.heap.size w w' := by
  have hp1 : ∀ W, W.cell? ⟨0, 0, none⟩ = some (.int .i64 m) → Calls Tryz.prog 14 #[.string ⟨#[115, 111, 32, 45, 50]⟩] W fun e w' => ∃ b off c, e = .returned (.tuple #[.agg #[.int .i64 2, .int .i64 0, .slice (some ⟨b, off, none⟩) 1 c, .int .i64 0, .int .i64 0, .string ⟨#[]⟩, .bool false, .bool false, .bool false, .bool false, .string ⟨#[]⟩, .string ⟨#[]⟩], .int .i64 0]) ∧
      (w'.cell? ⟨b, off, none⟩ = some (.int .i64 1) ∧ w'.cell? ⟨b, off + 1, none⟩ = some (.bool true)) ∧ Below W.heap.size W w' := fun W h => by
    have := parse_any ⟨#[115, 111, 32, 45, 50]⟩ m W h
    rw [show pParse (⟨#[115, 111, 32, 45, 50]⟩ : ByteArray).data.toList = (awX, 0) from awX_parse] at this
    refine this.mono fun e w' ⟨A, c, h1, h2, _, h4⟩ => ?_
    obtain ⟨b, off, rfl, h5, h6⟩ := h2 0 (by simp [awX, lS])
    exact ⟨b, off, c, h1, ⟨h5, h6⟩, h4⟩
  have hp2 : ∀ W, W.cell? ⟨0, 0, none⟩ = some (.int .i64 m) → Calls Tryz.prog 14 #[.string ⟨#[37, 115, 47, 97, 92, 47, 98, 47, 99, 47, 103]⟩] W fun e w' => ∃ A c, e = .returned (.tuple #[.agg #[.int .i64 7, .int .i64 0, .slice A 0 c, .int .i64 0, .int .i64 0, .string ⟨#[]⟩, .bool false, .bool false, .bool true, .bool true, .string ⟨#[97, 47, 98]⟩, .string ⟨#[99]⟩], .int .i64 0]) ∧ Below W.heap.size W w' := fun W h => by
    have := parse_any ⟨#[37, 115, 47, 97, 92, 47, 98, 47, 99, 47, 103]⟩ m W h
    rw [show pParse (⟨#[37, 115, 47, 97, 92, 47, 98, 47, 99, 47, 103]⟩ : ByteArray).data.toList = (awY, 0) from awY_parse] at this
    exact this.mono fun e w' ⟨A, c, h1, h2, _, h4⟩ => ⟨A, c, h1, h4⟩
  have hp3 : ∀ W, Calls Tryz.prog 12 #[.agg #[.int .i64 1, .int .i64 12, .slice none 0 0, .int .i64 0, .int .i64 0, .string ⟨#[]⟩, .bool false, .bool false, .bool false, .bool false, .string ⟨#[]⟩, .string ⟨#[]⟩]] W fun e w' => e = .returned (.string ⟨#[49, 50]⟩) ∧ Below W.heap.size W w' := fun W => by
    have := print_any none 0 (lN 1 12) W (by simp [lN]) (RB.nil _ _) (by decide) (by decide) (by decide)
    rw [awZ_print] at this
    exact this
  have HM := Lib.hid hm; clear hm
  have eq := eql_by2
  have gq := grd_by2
  go_enter Tryz.func13, Tryz.ntmps13
  go_upto_region 3 with (first | (go_at_call 14; (with_reducible refine (hp1 _ HM.out).mono ?_); rintro e w1 ⟨b, off, c, rfl, ⟨h1, h2⟩, hb1⟩; have HM2 := Lib.hid (keep_cell (below_box w1 (.cells #[.int .i64 2, .int .i64 0, .slice (some ⟨b, off, none⟩) 1 c, .int .i64 0, .int .i64 0, .string ⟨#[]⟩, .bool false, .bool false, .bool false, .bool false, .string ⟨#[]⟩, .string ⟨#[]⟩] 34)) (keep_cell hb1 HM.out))) |
    (go_at_call 14; (with_reducible refine (hp2 _ HM2.out).mono ?_); rintro e w2 ⟨A, c2, rfl, hb2⟩))
  have b2 := below_box w2 (.cells #[.int .i64 7, .int .i64 0, .slice A 0 c2, .int .i64 0, .int .i64 0, .string ⟨#[]⟩, .bool false, .bool false, .bool true, .bool true, .string ⟨#[97, 47, 98]⟩, .string ⟨#[99]⟩] 34)
  have b1 := below_box w1 (.cells #[.int .i64 2, .int .i64 0, .slice (some ⟨b, off, none⟩) 1 c, .int .i64 0, .int .i64 0, .string ⟨#[]⟩, .bool false, .bool false, .bool false, .bool false, .string ⟨#[]⟩, .string ⟨#[]⟩] 34)
  have x0 : (w2.alloc (.cells #[.int .i64 7, .int .i64 0, .slice A 0 c2, .int .i64 0, .int .i64 0, .string ⟨#[]⟩, .bool false, .bool false, .bool true, .bool true, .string ⟨#[97, 47, 98]⟩, .string ⟨#[99]⟩] 34)).cell? ⟨w1.heap.size, 0, none⟩ = some (.int .i64 2) := keep_cell b2 (keep_cell hb2 (by simp [go_sem]))
  have x2 : (w2.alloc (.cells #[.int .i64 7, .int .i64 0, .slice A 0 c2, .int .i64 0, .int .i64 0, .string ⟨#[]⟩, .bool false, .bool false, .bool true, .bool true, .string ⟨#[97, 47, 98]⟩, .string ⟨#[99]⟩] 34)).cell? ⟨w1.heap.size, 2, none⟩ = some (.slice (some ⟨b, off, none⟩) 1 c) := keep_cell b2 (keep_cell hb2 (by simp [go_sem]))
  have g1 := keep_cell b2 (keep_cell hb2 (keep_cell b1 h1))
  have g2 := keep_cell b2 (keep_cell hb2 (keep_cell b1 h2))
  have y8 : (w2.alloc (.cells #[.int .i64 7, .int .i64 0, .slice A 0 c2, .int .i64 0, .int .i64 0, .string ⟨#[]⟩, .bool false, .bool false, .bool true, .bool true, .string ⟨#[97, 47, 98]⟩, .string ⟨#[99]⟩] 34)).cell? ⟨w2.heap.size, 8, none⟩ = some (.bool true) := by simp [go_sem]
  have y9 : (w2.alloc (.cells #[.int .i64 7, .int .i64 0, .slice A 0 c2, .int .i64 0, .int .i64 0, .string ⟨#[]⟩, .bool false, .bool false, .bool true, .bool true, .string ⟨#[97, 47, 98]⟩, .string ⟨#[99]⟩] 34)).cell? ⟨w2.heap.size, 9, none⟩ = some (.bool true) := by simp [go_sem]
  have y10 : (w2.alloc (.cells #[.int .i64 7, .int .i64 0, .slice A 0 c2, .int .i64 0, .int .i64 0, .string ⟨#[]⟩, .bool false, .bool false, .bool true, .bool true, .string ⟨#[97, 47, 98]⟩, .string ⟨#[99]⟩] 34)).cell? ⟨w2.heap.size, 10, none⟩ = some (.string ⟨#[97, 47, 98]⟩) := by simp [go_sem]
  have y11 : (w2.alloc (.cells #[.int .i64 7, .int .i64 0, .slice A 0 c2, .int .i64 0, .int .i64 0, .string ⟨#[]⟩, .bool false, .bool false, .bool true, .bool true, .string ⟨#[97, 47, 98]⟩, .string ⟨#[99]⟩] 34)).cell? ⟨w2.heap.size, 11, none⟩ = some (.string ⟨#[99]⟩) := by simp [go_sem]
  have hbw1 := keep_below hb1 b1 hb1.size
  have hbw2 := keep_below hbw1 hb2 hbw1.size
  have HBW := Lib.hid (keep_below hbw2 b2 hbw2.size)
  clear hbw1 hbw2 b1 b2 h1 h2 hb1 hb2
  generalize w2.alloc (.cells #[.int .i64 7, .int .i64 0, .slice A 0 c2, .int .i64 0, .int .i64 0, .string ⟨#[]⟩, .bool false, .bool false, .bool true, .bool true, .string ⟨#[97, 47, 98]⟩, .string ⟨#[99]⟩] 34) = W at *
  go_wp2_with (go_at_call 12; (with_reducible refine (hp3 _).mono ?_); rintro e w3 ⟨rfl, hb3⟩)
  go_ret
  exact ⟨rfl, keep_below HBW.out hb3 HBW.out.size⟩
end Go.Proofs.YtckmkhcahnijmaaGreatDoor
