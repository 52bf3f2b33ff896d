/- The walks of the program: ex.sign, filter.Print. -/
import Derived.Test.YtckmkhcahnijmaaGreatDoorP2
namespace Go.Proofs.YtckmkhcahnijmaaGreatDoor
open Go.RowKit
set_option linter.unusedVariables false
set_option linter.unusedSimpArgs false

theorem ptextZ (z : Int) (w : World) (h0 : 0 ≤ z) (h1 : z ≤ 2147483647) :
    Calls Tryz.prog 44 #[.int .i64 z] w fun e w' => e = .returned (.string (bs (numB z.toNat))) ∧ Below w.heap.size w w' := by
  obtain ⟨n, rfl⟩ := Int.eq_ofNat_of_zero_le h0
  exact ptext_any n w (by omega)
set_option maxHeartbeats 1000000 in
theorem sign_any (b : Bool) (s : ByteArray) (w : World) :
    Calls Tryz.prog 45 #[.bool b, .string s] w fun e w' => e = .returned (.string (if b then s else ⟨#[]⟩)) ∧ w = w' := by
  cases b
  all_goals
    go_enter Tryz.func45, Tryz.ntmps45
    go_wp2
    go_ret
    exact ⟨rfl, rfl⟩

set_option maxHeartbeats 2000000 in
theorem tprint_any (t : Tst) (w : World) (hs : t.arg.size ≤ 65536) :
    Calls Tryz.prog 46 #[vT t] w fun e w' => e = .returned (.string (bs (tPrint t))) ∧ Below w.heap.size w w' := by
  have hfr := fun w => tright_any t w hs
  cases hR : tRight t
  · have hP : tPrint t = [] := by rw [tPrint, hR]; rfl
    have HP := Lib.hid hP; clear hP
    rw [hR] at hfr
    clear hR
    obtain ⟨col, op, s, nt⟩ := t
    unfold vT at *
    simp only at hs hfr HP ⊢
    go_enter Tryz.func46, Tryz.ntmps46
    go_wp2_with (first | (go_at_call 42; refine (hfr _).mono ?_; rintro e w1 ⟨rfl, hb1⟩))
    go_ret
    exact ⟨ret_str (by rw [HP.out]; rfl), keep_below (below_box w _) hb1 (by simp)⟩
  · have hP : tPrint t = tText t := by rw [tPrint, hR]; rfl
    obtain ⟨h1, h2, h3, h4, h5⟩ := tRight_ranges hR
    rw [hR] at hfr
    clear hR
    have HP := Lib.hid hP; clear hP
    obtain ⟨col, op, s, nt⟩ := t
    simp only at h1 h2 h3 h4 h5 hs
    obtain ⟨c, rfl⟩ := Int.eq_ofNat_of_zero_le h1
    obtain ⟨o, rfl⟩ := Int.eq_ofNat_of_zero_le h3
    unfold vT at *
    simp only at hs hfr HP ⊢
    have hnt := fun w => ptext_any (c + 1) w (by omega)
    go_enter Tryz.func46, Tryz.ntmps46
    go_wp2_with (first | (go_at_call 42; refine (hfr _).mono ?_; rintro e w1 ⟨rfl, hb1⟩; have k3 : w1.cell? ⟨w.heap.size, 3, none⟩ = some (.bool nt) := keep_cell hb1 (by simp [go_sem])))
    all_goals
      have hW : Below w.heap.size w w1 := keep_below (below_box w _) hb1 (by simp)
      have k0 : w1.cell? ⟨w.heap.size, 0, none⟩ = some (.int .i64 c) := keep_cell hb1 (by simp [go_sem])
      have k1 : w1.cell? ⟨w.heap.size, 1, none⟩ = some (.int .i64 o) := keep_cell hb1 (by simp [go_sem])
      have k2 : w1.cell? ⟨w.heap.size, 2, none⟩ = some (.string s) := keep_cell hb1 (by simp [go_sem])
      clear hb1 hfr
      generalize w1 = wz at *
      have v1 : IntKind.i64.wrap ((c : Int) + 1) = (c : Int) + 1 := IntWalk.i64_in _ (by omega)
      have v2 : IntKind.i64.wrap ((o : Int) + 1) = (o : Int) + 1 := IntWalk.i64_in _ (by omega)
      have v3 : ((o : Int) + 1).toNat = o + 1 := by omega
      have v4 : (o : Int) ≤ (o : Int) + 1 := by omega
      have v5 : (o : Int) + 1 ≤ 7 := by omega
      have v6 : (0 : Int) ≤ (o : Int) + 1 := by omega
      have v7 := numB_len (c + 1)
      have v8 : (bs (numB (c + 1))).size = (numB (c + 1)).length := rfl
      have v9 : ((⟨#[126, 61, 60, 62, 94, 36, 63]⟩ : ByteArray).extract o (o + 1)).size = 1 := by
        have := congrArg List.length (signs_one o (by omega)); rw [L_len] at this; exact this
      have z0 : ¬ 9223372036854775807 < (numB (c + 1)).length := by omega
      have z1 : ¬ 9223372036854775807 < (numB (c + 1)).length + 1 := by omega
      have z2 : ¬ 9223372036854775807 < (numB (c + 1)).length + 1 + s.size := by omega
      have z3 : ¬ 9223372036854775807 < 1 + (numB (c + 1)).length := by omega
      have z4 : ¬ 9223372036854775807 < 1 + (numB (c + 1)).length + 1 := by omega
      have z5 : ¬ 9223372036854775807 < 1 + (numB (c + 1)).length + 1 + s.size := by omega
      go_region_held3 (fun w' => w'.cell? ⟨w.heap.size, 0, none⟩ = some (.int .i64 c) ∧ w'.cell? ⟨w.heap.size, 1, none⟩ = some (.int .i64 o) ∧ w'.cell? ⟨w.heap.size, 2, none⟩ = some (.string s) ∧ Below w.heap.size w w')
        ((go_split_ands; refine ⟨?_, ?_, ?_, ?_⟩ <;> first | assumption | exact Below.drew (by assumption) | exact keep_cell hb2 (by assumption) | exact keep_below (by assumption) hb2 (by first | assumption | exact Below.size (by assumption))))
        (first | (go_at_call 44; refine (hnt _).mono ?_; rintro e w2 ⟨rfl, hb2⟩))
      go_wp2
      go_ret
      refine ⟨ret_str (ba_ext ?_), keep_below hW.drew hb2 hW.size⟩
      rw [HP.out, bs_L]
      simp only [app_L, bs_L]
      rw [show (⟨#[126, 61, 60, 62, 94, 36, 63]⟩ : ByteArray) = signsB from rfl, signs_one o (by omega)]
      go_light
      simp_all [tText]
end Go.Proofs.YtckmkhcahnijmaaGreatDoor
