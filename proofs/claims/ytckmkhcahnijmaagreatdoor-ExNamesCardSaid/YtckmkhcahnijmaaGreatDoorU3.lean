/- The walks of the program: ex.text of keys and of substitutions, ex.Right, ex.Print. -/
import Derived.Test.YtckmkhcahnijmaaGreatDoorZ1
namespace Go.Proofs.YtckmkhcahnijmaaGreatDoor
open Go.RowKit
set_option linter.unusedVariables false
set_option linter.unusedSimpArgs false

set_option maxRecDepth 100000 in
set_option maxHeartbeats 4000000 in
theorem ptext2 (A : Option Addr) (c : Nat) (x : Ln) (w : World) (h2 : x.nm = 2) (hl : x.bys.length ≤ 4) (hk : x.bys.all keyOk = true) (hr : RB w A x.bys) :
    Calls Tryz.prog 28 #[vL A c x] w fun e w' => e = .returned (.string (bs (pText x))) ∧ Below w.heap.size w w' := by
  have HT : Hid (pText x = wd 2 ++ keysB x.bys) := Lib.hid (by rw [pText, if_neg (by omega), if_pos h2])
  have HR := Lib.hid hr; clear hr
  have HK := Lib.hid hk; clear hk
  obtain ⟨nm, n, l, ⟨col, op, arg, nt⟩, has, whole, each, pat, wth⟩ := x
  simp only at h2 hl
  subst h2
  unfold vL
  simp only at *
  have hbx := below_box w (.cells #[.int .i64 2, .int .i64 n, .slice A l.length c, .int .i64 col, .int .i64 op, .string arg, .bool nt, .bool has, .bool whole, .bool each, .string pat, .string wth] 34)
  have HB0 : Hid (Box w.heap.size 34 A c ⟨2, n, l, ⟨col, op, arg, nt⟩, has, whole, each, pat, wth⟩ (w.alloc (.cells #[.int .i64 2, .int .i64 n, .slice A l.length c, .int .i64 col, .int .i64 op, .string arg, .bool nt, .bool has, .bool whole, .bool each, .string pat, .string wth] 34))) :=
    Lib.hid (by unfold Box; simp [go_sem])
  have hwd := fun W => wordZ 2 (by omega) (by omega) W
  go_enter Tryz.func28, Tryz.ntmps28
  go_upto_region 1 with fail
  go_cut [3] (fun s wx => s = .string (bs (wd 2)) ∧ Box w.heap.size 34 A c ⟨2, n, l, ⟨col, op, arg, nt⟩, has, whole, each, pat, wth⟩ wx ∧ Below w.heap.size w wx)
  case first =>
    go_wp2_with (go_at_call 35; refine (hwd _).mono ?_; rintro e w2 ⟨rfl, hb2⟩)
    go_meet
    exact ⟨rfl, HB0.out.keep hb2, keep_below hbx hb2 (by simp)⟩
  case rest =>
    obtain ⟨rfl, hbox, hbW⟩ := hcut
    clear HB0 hbx hwd
    have HBX := Lib.hid hbox; clear hbox
    obtain ⟨k0, k1, k2, k3, k4, k5, k6, k7, k8, k9, k10, k11⟩ := HBX.out
    simp only at k0 k2
    clear k1 k3 k4 k5 k6 k7 k8 k9 k10 k11
    have HRW := Lib.hid (HR.out.keep hbW)
    have hw9 : (bs (wd 2)).size ≤ 9 := wd_len 2
    go_wp2_with fail
    go_loopw [3, 21] (fun o i wr => ∃ (k : Nat) (out : ByteArray), k ≤ l.length ∧ i = .int .i64 k ∧ o = .string out ∧ out.size ≤ 9 + 100 * k ∧ wd 2 ++ keysB l = out.data.toList ++ keysB (l.drop k) ∧ Below wc.heap.size wc wr) (fun _ i _ => l.length - (intOf i).toNat)
    case atStart => exact ⟨0, _, by omega, rfl, rfl, by omega, by simp [bs_L], Below.refl _ _⟩
    case round =>
      obtain ⟨k, out, hkl, rfl, rfl, ho, hq, hb⟩ := hrel
      have HQ := Lib.hid hq; clear hq
      by_cases hlt : k < l.length
      · obtain ⟨b, off, HA, g1, g2⟩ := (HRW.out.keep hb) k hlt
        subst HA
        have HD := Lib.hid (List.drop_eq_getElem_cons hlt)
        have hok : keyOk l[k] = true := List.all_eq_true.mp HK.out _ (List.getElem_mem hlt)
        have hok2 : 0 ≤ l[k].1 ∧ l[k].1 ≤ 39 := by simpa [keyOk] using hok
        obtain ⟨y1, y2⟩ := hok2
        clear hok
        have hnl := numB_len (l[k].1 + 1).toNat
        have hnz : (bs (numB (l[k].1 + 1).toNat)).size = (numB (l[k].1 + 1).toNat).length := rfl
        have hnt := fun W => ptextZ (l[k].1 + 1) W (by omega) (by omega)
        obtain ⟨sg, hsg, hsz, hse⟩ : ∃ sg : ByteArray, (∀ W, Calls Tryz.prog 45 #[.bool l[k].2, .string ⟨#[45]⟩] W fun e w' => e = .returned (.string sg) ∧ W = w') ∧ sg.size ≤ 1 ∧ sg.data.toList = if l[k].2 then [45] else [] :=
          ⟨if l[k].2 then ⟨#[45]⟩ else ⟨#[]⟩, fun W => sign_any _ _ W, by split <;> simp [ByteArray.size], by split <;> rfl⟩
        have HSE := Lib.hid hse; clear hse
        go_upto_region 9 with fail
        have v1 : IntKind.i64.wrap (l[k].1 + 1) = l[k].1 + 1 := IntWalk.i64_in _ (by omega)
        have c0 : (wr.alloc (.cells #[.int .i64 l[k].1, .bool l[k].2] 57)).cell? ⟨wr.heap.size, 0, none⟩ = some (.int .i64 l[k].1) := by simp [go_sem]
        have c1 : (wr.alloc (.cells #[.int .i64 l[k].1, .bool l[k].2] 57)).cell? ⟨wr.heap.size, 1, none⟩ = some (.bool l[k].2) := by simp [go_sem]
        have hbb : Below wc.heap.size wc (wr.alloc (.cells #[.int .i64 l[k].1, .bool l[k].2] 57)) := hb.alloc hb.size _
        generalize wr.alloc (.cells #[.int .i64 l[k].1, .bool l[k].2] 57) = wy at *
        have z1 : ¬ 9223372036854775807 < 1 + sg.size := by omega
        have z2 : ¬ 9223372036854775807 < 1 + sg.size + (numB (l[k].1 + 1).toNat).length := by omega
        have z3 : ¬ 9223372036854775807 < out.size + (1 + sg.size + (numB (l[k].1 + 1).toNat).length) := by omega
        go_region_held3 (fun w' => w'.cell? ⟨wr.heap.size, 0, none⟩ = some (.int .i64 l[k].1) ∧ w'.cell? ⟨wr.heap.size, 1, none⟩ = some (.bool l[k].2) ∧ Below wc.heap.size wc w')
          ((go_split_ands; refine ⟨?_, ?_, ?_⟩ <;> first | assumption | exact Below.drew (by assumption) | exact keep_cell hb2 (by assumption) | exact keep_below (by assumption) hb2 (by first | assumption | exact Below.size (by assumption))))
          (first | (go_at_call 44; refine (hnt _).mono ?_; rintro e w2 ⟨rfl, hb2⟩) | (go_at_call 45; refine (hsg _).mono ?_; rintro e w2 ⟨rfl, rfl⟩))
        go_wp2_with fail
        go_roundw
        case rel =>
          refine ⟨k + 1, _, by omega, by go_num, rfl, ?_, ?_, keep_below hbb (undrew hb2) hbb.size⟩
          · simp only [ByteArray.size_append, one_size, hnz]; omega
          · rw [HQ.out, HD.out, keysB_cons]
            simp only [app_L, bs_L, HSE.out]
            simp
        case measure => simp [intOf]; omega
      · have HN0 := Lib.hid (show l.drop k = [] from List.drop_of_length_le (by omega))
        go_wp2_with fail
        go_ret
        refine ⟨ret_str (ba_ext ?_), keep_below hbW hb hbW.size⟩
        rw [bs_L, HT.out, HQ.out, HN0.out]; simp [keysB]
end Go.Proofs.YtckmkhcahnijmaaGreatDoor
