/- The walks of the program: ex.text of substitutions; ex.text of any line that fits; ex.Right, ex.Print. -/
import Derived.Test.YtckmkhcahnijmaaGreatDoorU3
namespace Go.Proofs.YtckmkhcahnijmaaGreatDoor
open Go.RowKit
set_option linter.unusedVariables false
set_option linter.unusedSimpArgs false

theorem sign_some (d : Bool) (c : UInt8) : ∃ sg : ByteArray, (∀ W, Calls Tryz.prog 45 #[.bool d, .string ⟨#[c]⟩] W fun e w' => e = .returned (.string sg) ∧ W = w') ∧ sg.size ≤ 1 ∧ sg.data.toList = if d then [c] else [] :=
  ⟨if d then ⟨#[c]⟩ else ⟨#[]⟩, fun W => sign_any _ _ W, by split <;> simp [ByteArray.size], by split <;> rfl⟩
set_option maxRecDepth 100000 in
set_option maxHeartbeats 4000000 in
theorem ptext7 (A : Option Addr) (c : Nat) (x : Ln) (w : World) (h7 : x.nm = 7) (hp : x.pat.size ≤ 65536) (hq : x.wth.size ≤ 65536) :
    Calls Tryz.prog 28 #[vL A c x] w fun e w' => e = .returned (.string (bs (pText x))) ∧ Below w.heap.size w w' := by
  have HT : Hid (pText x = subB x) := Lib.hid (by simp [pText, h7])
  obtain ⟨nm, n, l, ⟨col, op, arg, nt⟩, has, whole, each, pat, wth⟩ := x
  simp only at h7 hp hq
  subst h7
  unfold vL
  simp only at *
  have hbx := below_box w (.cells #[.int .i64 7, .int .i64 n, .slice A l.length c, .int .i64 col, .int .i64 op, .string arg, .bool nt, .bool has, .bool whole, .bool each, .string pat, .string wth] 34)
  have HB0 : Hid (Box w.heap.size 34 A c ⟨7, n, l, ⟨col, op, arg, nt⟩, has, whole, each, pat, wth⟩ (w.alloc (.cells #[.int .i64 7, .int .i64 n, .slice A l.length c, .int .i64 col, .int .i64 op, .string arg, .bool nt, .bool has, .bool whole, .bool each, .string pat, .string wth] 34))) :=
    Lib.hid (by unfold Box; simp [go_sem])
  have hwd := fun W => wordZ 7 (by omega) (by omega) W
  go_enter Tryz.func28, Tryz.ntmps28
  go_upto_region 1 with fail
  go_cut [3] (fun s wx => s = .string (bs (wd 7)) ∧ Box w.heap.size 34 A c ⟨7, n, l, ⟨col, op, arg, nt⟩, has, whole, each, pat, wth⟩ wx ∧ Below w.heap.size w wx)
  case first =>
    go_wp2_with (go_at_call 35; refine (hwd _).mono ?_; rintro e w2 ⟨rfl, hb2⟩)
    go_meet
    exact ⟨rfl, HB0.out.keep hb2, keep_below hbx hb2 (by simp)⟩
  case rest =>
    obtain ⟨rfl, hbox, hbW⟩ := hcut
    clear HB0 hbx hwd
    have HBX := Lib.hid hbox; clear hbox
    obtain ⟨k0, k1, k2, k3, k4, k5, k6, k7, k8, k9, k10, k11⟩ := HBX.out
    simp only at k0 k8 k9 k10 k11
    clear k1 k2 k3 k4 k5 k6 k7
    obtain ⟨s1, hs1, hz1, he1⟩ := sign_some whole 37
    obtain ⟨s2, hs2, hz2, he2⟩ := sign_some each 103
    have HE1 := Lib.hid he1; have HE2 := Lib.hid he2; clear he1 he2
    have e1 := fun W => escaped_any pat W hp
    have e2 := fun W => escaped_any wth W hq
    have y1 : (bs (esc pat.data.toList)).size ≤ 131072 := by have := esc_len pat.data.toList; rw [L_len] at this; rw [bs_size]; omega
    have y2 : (bs (esc wth.data.toList)).size ≤ 131072 := by have := esc_len wth.data.toList; rw [L_len] at this; rw [bs_size]; omega
    have HP1 : Hid ((bs (esc pat.data.toList)).data.toList = esc pat.data.toList) := Lib.hid rfl
    have HP2 : Hid ((bs (esc wth.data.toList)).data.toList = esc wth.data.toList) := Lib.hid rfl
    generalize bs (esc pat.data.toList) = p1 at *
    generalize bs (esc wth.data.toList) = p2 at *
    go_upto_region 19 with fail
    have z1 : ¬ 9223372036854775807 < s1.size + 2 := by omega
    have z2 : ¬ 9223372036854775807 < s1.size + 2 + p1.size := by omega
    have z3 : ¬ 9223372036854775807 < s1.size + 2 + p1.size + 1 := by omega
    have z4 : ¬ 9223372036854775807 < s1.size + 2 + p1.size + 1 + p2.size := by omega
    have z5 : ¬ 9223372036854775807 < s1.size + 2 + p1.size + 1 + p2.size + 1 := by omega
    have z6 : ¬ 9223372036854775807 < s1.size + 2 + p1.size + 1 + p2.size + 1 + s2.size := by omega
    clear k0
    go_region_held3 (fun w' => w'.cell? ⟨w.heap.size, 8, none⟩ = some (.bool whole) ∧ w'.cell? ⟨w.heap.size, 9, none⟩ = some (.bool each) ∧ w'.cell? ⟨w.heap.size, 10, none⟩ = some (.string pat) ∧ w'.cell? ⟨w.heap.size, 11, none⟩ = some (.string wth) ∧ Below w.heap.size w w')
      ((go_split_ands; refine ⟨?_, ?_, ?_, ?_, ?_⟩ <;> first | assumption | exact Below.drew (by assumption) | exact keep_cell hb2 (by assumption) | exact keep_below (by assumption) hb2 (by first | assumption | exact Below.size (by assumption)) | exact keep_cell hb3 (by assumption) | exact keep_below (by assumption) hb3 (by first | assumption | exact Below.size (by assumption))))
      (first | (go_at_call 45; (with_reducible refine (hs1 _).mono ?_); rintro e w2 ⟨rfl, rfl⟩) | (go_at_call 45; (with_reducible refine (hs2 _).mono ?_); rintro e w2 ⟨rfl, rfl⟩) | (go_at_call 47; (with_reducible refine (e1 _).mono ?_); rintro e w2 ⟨rfl, hb2⟩) | (go_at_call 47; (with_reducible refine (e2 _).mono ?_); rintro e w3 ⟨rfl, hb3⟩))
    go_wp2_with fail
    go_ret
    have b2 := keep_below hbW (undrew hb2) hbW.size
    refine ⟨ret_str (ba_ext ?_), keep_below b2 hb3 b2.size⟩
    rw [bs_L, HT.out]
    simp only [app_L, HE1.out, HE2.out, HP1.out, HP2.out]
    simp [subB]

theorem bysOk_all' {l : List (Int × Bool)} (h : bysOk l = true) : l.all keyOk = true ∧ l.length ≤ 4 := by
  simp only [bysOk, Bool.and_eq_true, decide_eq_true_eq] at h; exact ⟨h.2, h.1⟩
theorem text_any (A : Option Addr) (c : Nat) (x : Ln) (w : World) (h : pOk x = true) (hr : RB w A x.bys) (hs : x.t.arg.size ≤ 65536) (hp : x.pat.size ≤ 65536) (hq : x.wth.size ≤ 65536) :
    Calls Tryz.prog 28 #[vL A c x] w fun e w' => e = .returned (.string (bs (pText x))) ∧ Below w.heap.size w w' := by
  have hf := pok_fit h
  have hkk : 0 ≤ x.nm ∧ x.nm ≤ 13 := by
    simp only [pOk, Bool.and_eq_true, decide_eq_true_eq] at h; exact ⟨h.1, h.2.1⟩
  by_cases h2 : x.nm = 2
  · have hb : bysOk x.bys = true := by
      cases hf with
      | sort l h => exact h
      | none => simp [zL] at h2
      | goto n => simp [lN] at h2
      | test k t hk h => simp only [lT] at h2; omega
      | bare k hk => simp only [lW] at h2; omega
      | num k n h => simp only [lN] at h2; omega
      | subst => simp [lP] at h2
    obtain ⟨h3, h4⟩ := bysOk_all' hb
    exact ptext2 A c x w h2 h4 h3 hr
  · by_cases h7 : x.nm = 7
    · exact ptext7 A c x w h7 hp hq
    · refine ptextA A c x w hkk.1 hkk.2 (fun hn => ?_) hs h2 h7
      cases hf with
      | none => cases hn
      | goto n h1 h2 => exact ⟨by simp only [lN]; omega, by simp only [lN]; omega⟩
      | sort l h => cases hn
      | test k t hk h => rcases hk with rfl | rfl <;> cases hn
      | bare k hk => simp [lW]
      | num k n h => simp only [lN]; omega
      | subst => cases hn
def pRight (x : Ln) : Bool := pOk x && decide ((pText x).length ≤ 100)

set_option maxRecDepth 100000 in
set_option maxHeartbeats 2000000 in
theorem right_any (A : Option Addr) (c : Nat) (x : Ln) (w : World) (hl : x.bys.length ≤ 65536) (hr : RB w A x.bys) (hs : x.t.arg.size ≤ 65536) (hp : x.pat.size ≤ 65536) (hq : x.wth.size ≤ 65536) :
    Calls Tryz.prog 10 #[vL A c x] w fun e w' => e = .returned (.bool (pRight x)) ∧ Below w.heap.size w w' := by
  have HE : Hid (pRight x = ((decide (0 ≤ x.nm) && (decide (x.nm ≤ 13) && (apartB x && pFits x))) && decide ((pText x).length ≤ 100))) := Lib.hid rfl
  have ha := fun W => apart_any A c x W hl
  have hf := fun W h => pfits_any A c x W hl h hs hp hq
  have htx : pOk x = true → ∀ W, RB W A x.bys → Calls Tryz.prog 28 #[vL A c x] W fun e w' => e = .returned (.string (bs (pText x))) ∧ Below W.heap.size W w' := fun h W hr => text_any A c x W h hr hs hp hq
  have HTX := Lib.hid htx; clear htx
  have hbx : Below w.heap.size w (w.alloc (.cells (vL A c x).cells 34)) := below_box _ _
  have HR1 := Lib.hid (hr.keep hbx)
  have HK : Hid (pOk x = (decide (0 ≤ x.nm) && (decide (x.nm ≤ 13) && (apartB x && pFits x)))) := Lib.hid rfl
  clear hr
  generalize pRight x = R at *
  generalize apartB x = ap at *
  generalize pFits x = pf at *
  have hts : (bs (pText x)).size = (pText x).length := rfl
  generalize pText x = tx at *
  obtain ⟨nm, n, l, ⟨col, op, arg, nt⟩, has, whole, each, pat, wth⟩ := x
  have HB0 : Hid (Box w.heap.size 34 A c ⟨nm, n, l, ⟨col, op, arg, nt⟩, has, whole, each, pat, wth⟩ (w.alloc (.cells #[.int .i64 nm, .int .i64 n, .slice A l.length c, .int .i64 col, .int .i64 op, .string arg, .bool nt, .bool has, .bool whole, .bool each, .string pat, .string wth] 34))) :=
    Lib.hid (by unfold Box; simp [go_sem])
  unfold vL at *
  simp only at *
  have hb0 : ∀ w2, Below (w.alloc (.cells #[.int .i64 nm, .int .i64 n, .slice A l.length c, .int .i64 col, .int .i64 op, .string arg, .bool nt, .bool has, .bool whole, .bool each, .string pat, .string wth] 34)).heap.size (w.alloc (.cells #[.int .i64 nm, .int .i64 n, .slice A l.length c, .int .i64 col, .int .i64 op, .string arg, .bool nt, .bool has, .bool whole, .bool each, .string pat, .string wth] 34)) w2 → Below w.heap.size w w2 := fun w2 hb => keep_below hbx hb (by simp)
  have HBB := Lib.hid hb0; clear hb0 hbx
  by_cases h0 : 0 ≤ nm
  · by_cases h1 : nm ≤ 13
    · cases ap
      · have HRR : Hid (R = false) := Lib.hid (by rw [HE.out]; simp)
        go_enter Tryz.func10, Tryz.ntmps10
        go_wp2_with (go_at_call 26; refine (ha _).mono ?_; rintro e w2 ⟨rfl, hb2⟩)
        go_ret
        exact ⟨ret_bool HRR.out.symm, HBB.out _ hb2⟩
      · cases pf
        · have HRR : Hid (R = false) := Lib.hid (by rw [HE.out]; simp)
          go_enter Tryz.func10, Tryz.ntmps10
          go_wp2_with (first | (go_at_call 26; refine (ha _).mono ?_; rintro e w2 ⟨rfl, hb2⟩; obtain ⟨k0, k1, k2, k3, k4, k5, k6, k7, k8, k9, k10, k11⟩ := HB0.out.keep hb2; simp only at k0 k1 k2 k3 k4 k5 k6 k7 k8 k9 k10 k11) | (go_at_call 27; refine (hf _ (HR1.out.keep hb2)).mono ?_; rintro e w3 ⟨rfl, hb3⟩))
          go_ret
          have b2 := HBB.out _ hb2
          exact ⟨ret_bool HRR.out.symm, keep_below b2 hb3 b2.size⟩
        · have HRR : Hid (R = decide (tx.length ≤ 100)) := Lib.hid (by rw [HE.out]; simp [h0, h1])
          have hok : pOk ⟨nm, n, l, ⟨col, op, arg, nt⟩, has, whole, each, pat, wth⟩ = true := by rw [HK.out]; simp [h0, h1]
          have htx := HTX.out hok
          clear hok
          go_enter Tryz.func10, Tryz.ntmps10
          go_wp2_with (first | (go_at_call 26; refine (ha _).mono ?_; rintro e w2 ⟨rfl, hb2⟩; obtain ⟨k0, k1, k2, k3, k4, k5, k6, k7, k8, k9, k10, k11⟩ := HB0.out.keep hb2; simp only at k0 k1 k2 k3 k4 k5 k6 k7 k8 k9 k10 k11) |
            (go_at_call 27; refine (hf _ (HR1.out.keep hb2)).mono ?_; rintro e w3 ⟨rfl, hb3⟩; clear k0 k1 k2 k3 k4 k5 k6 k7 k8 k9 k10 k11; obtain ⟨k0, k1, k2, k3, k4, k5, k6, k7, k8, k9, k10, k11⟩ := (HB0.out.keep hb2).keep hb3; simp only at k0 k1 k2 k3 k4 k5 k6 k7 k8 k9 k10 k11) |
            (go_at_call 28; refine (htx _ ((HR1.out.keep hb2).keep hb3)).mono ?_; rintro e w4 ⟨rfl, hb4⟩))
          all_goals
            go_ret
            have b2 := HBB.out _ hb2
            have b3 := keep_below b2 hb3 b2.size
            refine ⟨ret_bool ?_, keep_below b3 hb4 b3.size⟩
            rw [HRR.out]
            first | rfl | (go_light; simp; omega)
    · have HRR : Hid (R = false) := Lib.hid (by rw [HE.out]; simp [h1])
      go_enter Tryz.func10, Tryz.ntmps10
      go_wp2_with fail
      go_ret
      exact ⟨ret_bool HRR.out.symm, below_box _ _⟩
  · have HRR : Hid (R = false) := Lib.hid (by rw [HE.out]; simp [h0])
    go_enter Tryz.func10, Tryz.ntmps10
    go_wp2_with fail
    go_ret
    exact ⟨ret_bool HRR.out.symm, below_box _ _⟩
end Go.Proofs.YtckmkhcahnijmaaGreatDoor
