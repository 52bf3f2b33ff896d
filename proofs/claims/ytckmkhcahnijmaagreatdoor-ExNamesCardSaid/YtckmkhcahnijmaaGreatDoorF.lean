/- Lines and tests as Lean structures; the walks of the reference: damierref18.Right, Print. -/
import Derived.Test.YtckmkhcahnijmaaGreatDoorE
import Derived.Deep.Light
namespace Go.Proofs.YtckmkhcahnijmaaGreatDoor
open Go.RowKit
set_option linter.unusedVariables false
set_option linter.unusedSimpArgs false

structure Tst where
  col : Int
  op : Int
  arg : ByteArray
  nt : Bool
structure Ln where
  nm : Int
  n : Int
  bys : List (Int × Bool)
  t : Tst
  has : Bool
  whole : Bool
  each : Bool
  pat : ByteArray
  wth : ByteArray
def vT (t : Tst) : Value := .agg #[.int .i64 t.col, .int .i64 t.op, .string t.arg, .bool t.nt]
def vL (A : Option Addr) (c : Nat) (x : Ln) : Value := .agg #[.int .i64 x.nm, .int .i64 x.n, .slice A x.bys.length c, .int .i64 x.t.col, .int .i64 x.t.op, .string x.t.arg, .bool x.t.nt, .bool x.has, .bool x.whole, .bool x.each, .string x.pat, .string x.wth]

def tRight (t : Tst) : Bool := noEnd t.arg.data.toList && (decide (0 ≤ t.col) && (decide (t.col < 40) && (decide (0 ≤ t.op) && (decide (t.op < 7) && (decide (t.arg.size ≤ 100) && (t.op != 6 || t.arg.data.toList.isEmpty))))))

set_option maxHeartbeats 1000000 in
theorem fright_any (t : Tst) (w : World) (hs : t.arg.size ≤ 65536) :
    Calls Tryz.prog 38 #[vT t] w fun e w' => e = .returned (.bool (tRight t)) ∧ Below w.heap.size w w' := by
  obtain ⟨col, op, s, nt⟩ := t
  unfold vT
  simp only at hs ⊢
  go_enter Tryz.func38, Tryz.ntmps38
  go_wp2
  go_loop [3] (fun i => ∃ k : Nat, k ≤ s.size ∧ i = .int .i64 k ∧ noEnd s.data.toList = noEnd (s.data.toList.drop k)) (fun i => s.size - (intOf i).toNat)
  case atStart => exact ⟨0, by omega, rfl, by simp⟩
  case round =>
    obtain ⟨k, hk, rfl, hr⟩ := hrel
    have HR := Lib.hid hr; clear hr
    by_cases hlt : k < s.size
    · have hb : ((s[k].toNat : Int) == 10) = (s[k] == 10) := beq_byte _ 10
      have hb2 : ((s[k].toNat : Int) == 13) = (s[k] == 13) := beq_byte _ 13
      have HD := Lib.hid (drop_cons s k hlt)
      by_cases h10 : s[k] == 10
      · go_wp2
        go_ret
        exact ⟨ret_bool (by simp only [tRight]; rw [HR.out, HD.out, noEnd_cons]; simp [bne, h10]), (Below.refl _ _).alloc (Nat.le_refl _) _⟩
      · by_cases h13 : s[k] == 13
        · go_wp2
          go_ret
          exact ⟨ret_bool (by simp only [tRight]; rw [HR.out, HD.out, noEnd_cons]; simp [bne, h13]), (Below.refl _ _).alloc (Nat.le_refl _) _⟩
        · go_wp2
          go_round
          case rel => exact ⟨k + 1, by omega, by go_num, by rw [HR.out, HD.out, noEnd_cons]; simp [bne, h13, h10]⟩
          case measure => simp [intOf]; omega
    · have HK := Lib.hid (show k = s.size by omega)
      have HN := Lib.hid (show noEnd s.data.toList = true by rw [HR.out, HK.out, List.drop_of_length_le (by rw [L_len]; omega)]; rfl)
      clear HR
      go_wp2
      all_goals
        go_ret
        refine ⟨ret_bool ?_, (Below.refl _ _).alloc (Nat.le_refl _) _⟩
        go_light
        simp only [tRight, HN.out, Bool.true_and, toList_L]
        rw [Bool.eq_iff_iff]
        simp [*]
        try omega

def sgn (o : Nat) : UInt8 := [126, 61, 60, 62, 94, 36, 63].getD o 0
def tText (t : Tst) : List UInt8 := (if t.nt then [33] else []) ++ (numB (t.col + 1).toNat ++ [sgn t.op.toNat] ++ t.arg.data.toList)
def tPrint (t : Tst) : List UInt8 := if tRight t then tText t else []
theorem tRight_ranges {t : Tst} (h : tRight t = true) : 0 ≤ t.col ∧ t.col < 40 ∧ 0 ≤ t.op ∧ t.op < 7 ∧ t.arg.size ≤ 100 := by
  simp [tRight] at h
  omega
def signsB : ByteArray := ⟨#[126, 61, 60, 62, 94, 36, 63]⟩
theorem signs_one (o : Nat) (h : o < 7) : (signsB.extract o (o + 1)).data.toList = [sgn o] := by
  match o, h with
  | 0, _ => rfl | 1, _ => rfl | 2, _ => rfl | 3, _ => rfl | 4, _ => rfl | 5, _ => rfl | 6, _ => rfl
theorem dgs_len (n : Nat) : (dgs n).length ≤ n := by
  induction n using Nat.strongRecOn with
  | _ n ih =>
    rcases Nat.eq_zero_or_pos n with h | h
    · subst h; rw [dgs_zero]; simp
    · rw [dgs_pos (by omega), List.length_append, List.length_singleton]
      have := ih (n / 10) (by omega)
      omega
theorem numB_len (n : Nat) : (numB n).length ≤ n + 1 := by
  rw [numB]; split
  · simp
  · have := dgs_len n; omega

set_option maxHeartbeats 2000000 in
theorem fprint_any (t : Tst) (w : World) (hs : t.arg.size ≤ 65536) :
    Calls Tryz.prog 25 #[vT t] w fun e w' => e = .returned (.string (bs (tPrint t))) ∧ Below w.heap.size w w' := by
  have hfr := fun w => fright_any t w hs
  cases hR : tRight t
  · have hP : tPrint t = [] := by rw [tPrint, hR]; rfl
    have HP := Lib.hid hP; clear hP
    rw [hR] at hfr
    clear hR
    obtain ⟨col, op, s, nt⟩ := t
    unfold vT at *
    simp only at hs hfr HP ⊢
    go_enter Tryz.func25, Tryz.ntmps25
    go_wp2_with (first | (go_at_call 38; refine (hfr _).mono ?_; rintro e w1 ⟨rfl, hb1⟩))
    go_ret
    exact ⟨ret_str (by rw [HP.out]; rfl), keep_below (below_box w _) hb1 (by simp)⟩
  · have hP : tPrint t = tText t := by rw [tPrint, hR]; rfl
    obtain ⟨h1, h2, h3, h4, h5⟩ := tRight_ranges hR
    rw [hR] at hfr
    clear hR
    have HP := Lib.hid hP; clear hP
    obtain ⟨col, op, s, nt⟩ := t
    simp only at h1 h2 h3 h4 h5 hs
    obtain ⟨c, rfl⟩ := Int.eq_ofNat_of_zero_le h1
    obtain ⟨o, rfl⟩ := Int.eq_ofNat_of_zero_le h3
    unfold vT at *
    simp only at hs hfr HP ⊢
    have hnt := fun w => rtext_any (c + 1) w (by omega)
    go_enter Tryz.func25, Tryz.ntmps25
    go_wp2_with (first | (go_at_call 38; refine (hfr _).mono ?_; rintro e w1 ⟨rfl, hb1⟩))
    have hW : Below w.heap.size w w1 := keep_below (below_box w _) hb1 (by simp)
    have k0 : w1.cell? ⟨w.heap.size, 0, none⟩ = some (.int .i64 c) := keep_cell hb1 (by simp [go_sem])
    have k1 : w1.cell? ⟨w.heap.size, 1, none⟩ = some (.int .i64 o) := keep_cell hb1 (by simp [go_sem])
    have k2 : w1.cell? ⟨w.heap.size, 2, none⟩ = some (.string s) := keep_cell hb1 (by simp [go_sem])
    have k3 : w1.cell? ⟨w.heap.size, 3, none⟩ = some (.bool nt) := keep_cell hb1 (by simp [go_sem])
    clear hb1 hfr
    generalize w1 = wz at *
    have v1 : IntKind.i64.wrap ((c : Int) + 1) = (c : Int) + 1 := IntWalk.i64_in _ (by omega)
    have v2 : IntKind.i64.wrap ((o : Int) + 1) = (o : Int) + 1 := IntWalk.i64_in _ (by omega)
    have v3 : ((o : Int) + 1).toNat = o + 1 := by omega
    have v4 : (o : Int) ≤ (o : Int) + 1 := by omega
    have v5 : (o : Int) + 1 ≤ 7 := by omega
    have v6 : (0 : Int) ≤ (o : Int) + 1 := by omega
    have v7 := numB_len (c + 1)
    have v8 : (bs (numB (c + 1))).size = (numB (c + 1)).length := rfl
    have v9 : ((⟨#[126, 61, 60, 62, 94, 36, 63]⟩ : ByteArray).extract o (o + 1)).size = 1 := by
      have := congrArg List.length (signs_one o (by omega)); rw [L_len] at this; exact this
    have z1 : ¬ 9223372036854775807 < (numB (c + 1)).length + 1 := by omega
    have z2 : ¬ 9223372036854775807 < (numB (c + 1)).length + 1 + s.size := by omega
    go_region_held3 (fun w' => w'.cell? ⟨w.heap.size, 0, none⟩ = some (.int .i64 c) ∧ w'.cell? ⟨w.heap.size, 1, none⟩ = some (.int .i64 o) ∧ w'.cell? ⟨w.heap.size, 2, none⟩ = some (.string s) ∧ w'.cell? ⟨w.heap.size, 3, none⟩ = some (.bool nt) ∧ Below w.heap.size w w')
      ((go_split_ands; refine ⟨?_, ?_, ?_, ?_, ?_⟩ <;> first | assumption | exact Below.drew (by assumption) | exact keep_cell hb2 (by assumption) | exact keep_below (by assumption) hb2 (by first | assumption | exact Below.size (by assumption))))
      (first | (go_at_call 23; refine (hnt _).mono ?_; rintro e w2 ⟨rfl, hb2⟩))
    cases nt
    all_goals
      go_wp2
      go_ret
      refine ⟨ret_str (ba_ext ?_), keep_below hW.drew hb2 hW.size⟩
      rw [HP.out, bs_L]
      simp only [app_L, bs_L]
      rw [show (⟨#[126, 61, 60, 62, 94, 36, 63]⟩ : ByteArray) = signsB from rfl, signs_one o (by omega)]
      simp [tText]
end Go.Proofs.YtckmkhcahnijmaaGreatDoor
