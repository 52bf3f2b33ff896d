/- The walk of the program: ex.read, where a name begins the text. -/
import Derived.Test.YtckmkhcahnijmaaGreatDoorV7
import Derived.RegionTactic
import Derived.Deep.RegionWith
namespace Go.Proofs.YtckmkhcahnijmaaGreatDoor
open Go.RowKit
set_option linter.unusedVariables false
set_option linter.unusedSimpArgs false

/-- A variable for a line lies at block b, empty, and may be written. -/
def Zero (b : Nat) (w : World) : Prop := (w.cell? ⟨b, 0, none⟩ = some (.int .i64 0) ∧ w.cell? ⟨b, 1, none⟩ = some (.int .i64 0) ∧ w.cell? ⟨b, 2, none⟩ = some (.slice none 0 0) ∧ w.cell? ⟨b, 3, none⟩ = some (.int .i64 0) ∧ w.cell? ⟨b, 4, none⟩ = some (.int .i64 0) ∧ w.cell? ⟨b, 5, none⟩ = some (.string ⟨#[]⟩) ∧ w.cell? ⟨b, 6, none⟩ = some (.bool false) ∧ w.cell? ⟨b, 7, none⟩ = some (.bool false) ∧ w.cell? ⟨b, 8, none⟩ = some (.bool false) ∧ w.cell? ⟨b, 9, none⟩ = some (.bool false) ∧ w.cell? ⟨b, 10, none⟩ = some (.string ⟨#[]⟩) ∧ w.cell? ⟨b, 11, none⟩ = some (.string ⟨#[]⟩)) ∧ ∀ o, w.frozen? ⟨b, o, none⟩ = false
theorem Zero.keep {b : Nat} {w w1 : World} (h : Zero b w) (hb : Below w.heap.size w w1) : Zero b w1 := by
  obtain ⟨⟨a0, a1, a2, a3, a4, a5, a6, a7, a8, a9, a10, a11⟩, fa⟩ := h
  have hl := World.block_lt_of_cell? _ _ a0
  exact ⟨⟨keep_cell hb a0, keep_cell hb a1, keep_cell hb a2, keep_cell hb a3, keep_cell hb a4, keep_cell hb a5, keep_cell hb a6, keep_cell hb a7, keep_cell hb a8, keep_cell hb a9, keep_cell hb a10, keep_cell hb a11⟩, fun o => ((bcell hb).2 _ _ hl).trans (fa o)⟩
theorem Zero.new (w : World) : Zero w.heap.size (w.alloc (.cells zRow 34)) := by
  unfold Zero zRow; simp [go_sem]
theorem undrewN {w w1 : World} {n : Nat} (h : Below (w.drewN n).heap.size (w.drewN n) w1) : Below w.heap.size w w1 := ⟨h.os, h.tape, h.output, h.size, h.block⟩
theorem Zero.drew {b : Nat} {w : World} (h : Zero b w) : Zero b w.drew := h

set_option maxRecDepth 100000 in
set_option maxHeartbeats 2000000 in
theorem read3 (s rs : ByteArray) (h : Nat) (x : Ln) (full : List UInt8) (ok : Bool) (m : Int) (w : World) (hs : s.size ≤ 60000) (hm : w.cell? ⟨0, 0, none⟩ = some (.int .i64 m)) (h1 : isSub s.data.toList = false) (h2 : firstDig s.data.toList = false)
    (hh : hd s.data.toList = h) (hrs : s.extract h s.size = rs)
    (hx : (∃ k, pNamed (s.data.toList.take h) = [k] ∧ k < 14 ∧ x = pArg k rs.data.toList ∧ full = wd k ++ rs.data.toList ∧ ok = true) ∨ ((pNamed (s.data.toList.take h)).length ≠ 1 ∧ x = zL ∧ full = s.data.toList ∧ ok = s.data.toList.isEmpty)) :
    Calls Tryz.prog 29 #[.string s] w (ReadPost x full ok w) := by
  have hc1 := fun W => cutPrefix_any s ⟨#[37]⟩ W
  have e37 : (⟨#[37]⟩ : ByteArray).data.toList = [37] := rfl
  rw [e37] at hc1
  have hc2 := fun W => cutPrefix_any (bs (Lib.trimPrefix s.data.toList [37])) ⟨#[115, 47]⟩ W
  have e115 : (⟨#[115, 47]⟩ : ByteArray).data.toList = [115, 47] := rfl
  rw [e115, bs_L] at hc2
  have h1' : Lib.hasPrefix (Lib.trimPrefix s.data.toList [37]) [115, 47] = false := h1
  rw [h1'] at hc2
  clear h1 h1' e37 e115
  generalize Lib.trimPrefix s.data.toList [37] = r at *
  generalize Lib.trimPrefix r [115, 47] = q at *
  generalize Lib.hasPrefix s.data.toList [37] = d at *
  have hcut51 := fun W hm => cut51 s m W (by omega) hm
  have hdl : hd s.data.toList ≤ s.size := by rw [← L_len]; exact cnt_le _ _
  rw [hh] at hdl hcut51
  have hHz : (bs (s.data.toList.take h)).size = h := by rw [bs_size, List.length_take, L_len]; omega
  have hnmd := fun W => named_any (bs (s.data.toList.take h)) W (by rw [hHz]; omega)
  rw [bs_L] at hnmd
  have hez : rs.size = s.size - h := by rw [← hrs, ByteArray.size_extract]; omega
  clear hh
  generalize bs (s.data.toList.take h) = H at *
  generalize pNamed (s.data.toList.take h) = ns at *
  have HXX := Lib.hid hx; clear hx
  have H2 := Lib.hid h2; clear h2
  go_enter Tryz.func29, Tryz.ntmps29
  go_upto_region 5 with (first | (go_at_call 48; (with_reducible refine (hc1 _).mono ?_); rintro e w2 ⟨rfl, rfl⟩) | (go_at_call 48; (with_reducible refine (hc2 _).mono ?_); rintro e w2 ⟨rfl, rfl⟩))
  obtain ⟨W, hWe⟩ : ∃ W, W = w.alloc (.cells zRow 34) := ⟨_, rfl⟩
  have hz : Zero w.heap.size W := by rw [hWe]; exact Zero.new w
  have HZ := Lib.hid hz; clear hz
  have hbW : Below w.heap.size w W := by rw [hWe]; exact below_box w _
  have hmW : W.cell? ⟨0, 0, none⟩ = some (.int .i64 m) := keep_cell hbW hm
  have hWs : W.heap.size = w.heap.size + 1 := by rw [hWe]; simp
  have HWS := Lib.hid hWs; clear hWs
  unfold zRow at hWe
  rw [← hWe]
  clear hWe hc1 hc2
  have HB := Lib.hid hbW; clear hbW
  go_cut [41] (fun v wx => v = .bool false ∧ wx = W)
  case first =>
    cases hL : s.data.toList with
    | nil =>
      have f1 : s.toList = [] := by rw [toList_L, hL]
      have f2 : s.toList.isEmpty = true := by rw [f1]; rfl
      go_wp2_with fail
      go_meet
      exact ⟨rfl, rfl⟩
    | cons c l =>
      have hz0 : 0 < s.size := by rw [← L_len, hL]; simp
      have hc0 : s[0] = c := by
        have : s.data.toList[0]'(by rw [L_len]; exact hz0) = c := by simp only [hL]; rfl
        exact this
      have f1 : ¬ s.toList = [] := by rw [toList_L, hL]; simp
      have f2 : s.toList.isEmpty = false := by simpa using f1
      have f3 : (0 : Int) < s.size := by omega
      have hd := H2.out
      rw [hL] at hd
      have hcc : (c.toNat : Int) < 48 ∨ 48 ≤ (c.toNat : Int) ∧ 57 < (c.toNat : Int) := by
        simp [firstDig, dig] at hd; omega
      clear hd hL
      rcases hcc with g1 | ⟨g1, g2⟩
      · have g3 : ¬ 48 ≤ (c.toNat : Int) := by omega
        go_wp2_with fail
        go_meet
        exact ⟨rfl, rfl⟩
      · have g3 : ¬ (c.toNat : Int) ≤ 57 := by omega
        go_wp2_with fail
        go_meet
        exact ⟨rfl, rfl⟩
  case rest =>
    obtain ⟨rfl, rfl⟩ := hcut
    clear H2
    have hmD : ∀ n, (wc.drewN n).cell? ⟨0, 0, none⟩ = some (.int .i64 m) := fun n => hmW
    have HMD := Lib.hid hmD; clear hmD
    rcases HXX.out with ⟨k, rfl, hk, rfl, rfl, rfl⟩ | ⟨hnl, rfl, rfl, rfl⟩
    · clear HXX
      have hwd := fun W => word_any k hk W
      have hag := fun W hm => argued_any k rs m W (by omega) hm
      generalize pArg k rs.data.toList = y at *
      obtain ⟨nm, n, l, ⟨col, op, arg, nt⟩, has, whole, each, pat, wth⟩ := y
      unfold ArgPost vL at hag
      simp only at hag
      have hwl := wd_len k
      have hwz : (bs (wd k)).size = (wd k).length := rfl
      go_upto_region 12 with (first | (go_at_call 51; refine (hcut51 _ (HMD.out 0)).mono ?_; rintro e w2 ⟨r2, d2, n2, rfl, rfl⟩) | (go_at_call 34; refine (hnmd _).mono ?_; rintro e w2 ⟨v, rfl, hown, hb2⟩; obtain ⟨A, c, rfl⟩ := row_form hown; obtain ⟨g, rfl, hcell⟩ := row_at hown 0 (by simp); simp only [vints, List.map_cons, List.getElem?_cons_zero] at hcell))
      replace hb2 := undrewN hb2
      have hzw2 : Zero w.heap.size w2 := HZ.out.keep hb2
      have HZ2 := Lib.hid hzw2; clear hzw2
      have hm2 : w2.drew.cell? ⟨0, 0, none⟩ = some (.int .i64 m) := keep_cell hb2 hmW
      have HM2 := Lib.hid hm2; clear hm2
      have HC2 := Lib.hid (show w2.drew.cell? ⟨g, 0, none⟩ = some (.int .i64 k) from hcell)
      have HB2 := Lib.hid (show Below w.heap.size w w2.drew from (keep_below HB.out hb2 HB.out.size).drew)
      have HS2 := Lib.hid (show w.heap.size < w2.heap.size by have := hb2.size; have := HWS.out; simp at *; omega)
      have v1 : (h : Int) ≤ s.size := by omega
      have v2 : ¬ 9223372036854775807 < (wd k).length + rs.size := by omega
      clear hb2 hown
      go_region_with (first
        | (go_at_call 52; refine (hag _ HM2.out).mono ?_; rintro e w4 ⟨A, c4, rfl, hrb, hfr, hb4⟩; have hcell4 := keep_cell hb4 HC2.out; have HRB := Lib.hid hrb; clear hrb; have HFR := Lib.hid hfr; clear hfr; have HZ4 : Hid (Zero w.heap.size w4) := Lib.hid (HZ2.out.drew.keep hb4); have HB4 := Lib.hid hb4; clear hb4; obtain ⟨⟨a0, a1, a2, a3, a4, a5, a6, a7, a8, a9, a10, a11⟩, fa⟩ := HZ4.out)
        | (go_at_call 35; refine (hwd _).mono ?_; rintro e w5 ⟨rfl, hb5⟩; first | (have hzw5 : Zero w.heap.size w5 := Zero.keep HZ4.out hb5; clear a0 a1 a2 a3 a4 a5 a6 a7 a8 a9 a10 a11 fa; obtain ⟨⟨a0, a1, a2, a3, a4, a5, a6, a7, a8, a9, a10, a11⟩, fa⟩ := hzw5) | (have r0 : w5.cell? ⟨w.heap.size, 0, none⟩ = some (.int .i64 nm) := keep_cell hb5 (by simp [go_sem, a0, a1, a2, a3, a4, a5, a6, a7, a8, a9, a10, a11, fa]); have r1 : w5.cell? ⟨w.heap.size, 1, none⟩ = some (.int .i64 n) := keep_cell hb5 (by simp [go_sem, a0, a1, a2, a3, a4, a5, a6, a7, a8, a9, a10, a11, fa]); have r2 : w5.cell? ⟨w.heap.size, 2, none⟩ = some (.slice A l.length c4) := keep_cell hb5 (by simp [go_sem, a0, a1, a2, a3, a4, a5, a6, a7, a8, a9, a10, a11, fa]); have r3 : w5.cell? ⟨w.heap.size, 3, none⟩ = some (.int .i64 col) := keep_cell hb5 (by simp [go_sem, a0, a1, a2, a3, a4, a5, a6, a7, a8, a9, a10, a11, fa]); have r4 : w5.cell? ⟨w.heap.size, 4, none⟩ = some (.int .i64 op) := keep_cell hb5 (by simp [go_sem, a0, a1, a2, a3, a4, a5, a6, a7, a8, a9, a10, a11, fa]); have r5 : w5.cell? ⟨w.heap.size, 5, none⟩ = some (.string arg) := keep_cell hb5 (by simp [go_sem, a0, a1, a2, a3, a4, a5, a6, a7, a8, a9, a10, a11, fa]); have r6 : w5.cell? ⟨w.heap.size, 6, none⟩ = some (.bool nt) := keep_cell hb5 (by simp [go_sem, a0, a1, a2, a3, a4, a5, a6, a7, a8, a9, a10, a11, fa]); have r7 : w5.cell? ⟨w.heap.size, 7, none⟩ = some (.bool has) := keep_cell hb5 (by simp [go_sem, a0, a1, a2, a3, a4, a5, a6, a7, a8, a9, a10, a11, fa]); have r8 : w5.cell? ⟨w.heap.size, 8, none⟩ = some (.bool whole) := keep_cell hb5 (by simp [go_sem, a0, a1, a2, a3, a4, a5, a6, a7, a8, a9, a10, a11, fa]); have r9 : w5.cell? ⟨w.heap.size, 9, none⟩ = some (.bool each) := keep_cell hb5 (by simp [go_sem, a0, a1, a2, a3, a4, a5, a6, a7, a8, a9, a10, a11, fa]); have r10 : w5.cell? ⟨w.heap.size, 10, none⟩ = some (.string pat) := keep_cell hb5 (by simp [go_sem, a0, a1, a2, a3, a4, a5, a6, a7, a8, a9, a10, a11, fa]); have r11 : w5.cell? ⟨w.heap.size, 11, none⟩ = some (.string wth) := keep_cell hb5 (by simp [go_sem, a0, a1, a2, a3, a4, a5, a6, a7, a8, a9, a10, a11, fa]))))
      all_goals
        go_wp2_with fail
        refine bodyPost_ret (v := .tuple #[vL A c4 ⟨nm, n, l, ⟨col, op, arg, nt⟩, has, whole, each, pat, wth⟩, .string (bs (wd k ++ rs.data.toList)), .bool true]) ?_ rfl ⟨A, c4, rfl, ?_, ?_, ?_⟩
        · have hcat : bs (wd k) ++ rs = bs (wd k ++ rs.data.toList) := ba_ext (by rw [app_L, bs_L, bs_L])
          simp [results, Tryz.results29, go_sem, vL, hcat, a0, a1, a2, a3, a4, a5, a6, a7, a8, a9, a10, a11, fa]
        · have hne : ∀ g off, A = some ⟨g, off, none⟩ → g ≠ w.heap.size := fun g off h => by
            have := HFR.out g off h
            have := HS2.out
            simp at *
            omega
          (iterate 12 (refine RB.set ?_ hne))
          exact RB.keep HRB.out hb5
        · intro g off h
          have := HFR.out g off h
          have := HS2.out
          simp at *
          omega
        · (iterate 12 (refine below_set ?_ (Nat.le_refl _)))
          have b4 := keep_below HB2.out HB4.out HB2.out.size
          exact keep_below b4 hb5 b4.size
    · clear HXX
      have hnl' : ((ns.length : Int) != 1) = true := by rw [bne_iff_ne]; omega
      by_cases hE : s.data.toList = []
      · have f1 : s.toList = [] := by rw [toList_L, hE]
        have f2 : s.toList.isEmpty = true := by rw [f1]; rfl
        have HE : Hid (s.data.toList.isEmpty = true) := Lib.hid (by rw [hE]; rfl)
        clear hE
        go_wp2_with (first | (go_at_call 51; refine (hcut51 _ (HMD.out 0)).mono ?_; rintro e w2 ⟨r2, d2, n2, rfl, rfl⟩) | (go_at_call 34; refine (hnmd _).mono ?_; rintro e w2 ⟨v, rfl, hown, hb2⟩; obtain ⟨A, c, rfl⟩ := row_form hown; replace hb2 := undrewN hb2; have hzw2 := HZ.out.keep hb2; obtain ⟨⟨a0, a1, a2, a3, a4, a5, a6, a7, a8, a9, a10, a11⟩, fa⟩ := hzw2))
        refine bodyPost_ret (v := .tuple #[vL none 0 zL, .string s, .bool s.data.toList.isEmpty]) ?_ rfl ⟨none, 0, rfl, RB.nil _ _, (fun g off h => by cases h), ?_⟩
        · rw [HE.out]
          simp [results, Tryz.results29, go_sem, vL, zL, zT, zB, a0, a1, a2, a3, a4, a5, a6, a7, a8, a9, a10, a11, fa, f1, f2]
        · (iterate 12 (refine below_set ?_ (Nat.le_refl _)))
          exact keep_below HB.out hb2 HB.out.size
      · have f1 : ¬ s.toList = [] := by rw [toList_L]; exact hE
        have f2 : s.toList.isEmpty = false := by simpa using f1
        have HE : Hid (s.data.toList.isEmpty = false) := Lib.hid (by simpa using hE)
        clear hE
        go_wp2_with (first | (go_at_call 51; refine (hcut51 _ (HMD.out 0)).mono ?_; rintro e w2 ⟨r2, d2, n2, rfl, rfl⟩) | (go_at_call 34; refine (hnmd _).mono ?_; rintro e w2 ⟨v, rfl, hown, hb2⟩; obtain ⟨A, c, rfl⟩ := row_form hown; replace hb2 := undrewN hb2; have hzw2 := HZ.out.keep hb2; obtain ⟨⟨a0, a1, a2, a3, a4, a5, a6, a7, a8, a9, a10, a11⟩, fa⟩ := hzw2))
        refine bodyPost_ret (v := .tuple #[vL none 0 zL, .string s, .bool s.data.toList.isEmpty]) ?_ rfl ⟨none, 0, rfl, RB.nil _ _, (fun g off h => by cases h), ?_⟩
        · rw [HE.out]
          simp [results, Tryz.results29, go_sem, vL, zL, zT, zB, a0, a1, a2, a3, a4, a5, a6, a7, a8, a9, a10, a11, fa, f1, f2]
        · (iterate 12 (refine below_set ?_ (Nat.le_refl _)))
          exact keep_below HB.out hb2 HB.out.size
theorem read_any (s : ByteArray) (m : Int) (w : World) (hs : s.size ≤ 60000) (hm : w.cell? ⟨0, 0, none⟩ = some (.int .i64 m)) :
    Calls Tryz.prog 29 #[.string s] w (ReadPost (pRead s.data.toList).1 (pRead s.data.toList).2.1 (pRead s.data.toList).2.2 w) := by
  cases h1 : isSub s.data.toList with
  | true => exact read1 s w hs h1
  | false =>
    cases h2 : firstDig s.data.toList with
    | true => exact read2 s w hs h1 h2
    | false =>
      refine read3 s (s.extract (hd s.data.toList) s.size) (hd s.data.toList) _ _ _ m w hs hm h1 h2 rfl rfl ?_
      have hrest : (s.extract (hd s.data.toList) s.size).data.toList = s.data.toList.drop (hd s.data.toList) := by rw [ext_L, take_all]
      rw [pRead, if_neg (by rw [h1]; simp), if_neg (by rw [h2]; simp), hrest]
      cases hn : pNamed (s.data.toList.take (hd s.data.toList)) with
      | nil => exact .inr ⟨by simp, rfl, rfl, rfl⟩
      | cons k l =>
        cases l with
        | nil =>
          obtain ⟨hw, _, _⟩ := named_word hn
          unfold isWord at hw
          exact .inl ⟨k, rfl, by omega, rfl, rfl, rfl⟩
        | cons k2 l => exact .inr ⟨by simp, rfl, rfl, rfl⟩
end Go.Proofs.YtckmkhcahnijmaaGreatDoor
