/- The walk of the program: ex.argued. -/
import Derived.Test.YtckmkhcahnijmaaGreatDoorV4
namespace Go.Proofs.YtckmkhcahnijmaaGreatDoor
open Go.RowKit
set_option linter.unusedVariables false
set_option linter.unusedSimpArgs false

def zRow : Array Value := #[.int .i64 0, .int .i64 0, .slice none 0 0, .int .i64 0, .int .i64 0, .string ⟨#[]⟩, .bool false, .bool false, .bool false, .bool false, .string ⟨#[]⟩, .string ⟨#[]⟩]
def ArgPost (x : Ln) (w : World) (e : Ending) (w' : World) : Prop := ∃ A c, e = .returned (vL A c x) ∧ RB w' A x.bys ∧ (∀ g off, A = some ⟨g, off, none⟩ → w.heap.size ≤ g) ∧ Below w.heap.size w w'
theorem RB.set {w : World} {A : Option Addr} {l : List (Int × Bool)} (h : RB w A l) {b o : Nat} {v : Value} (hb : ∀ g off, A = some ⟨g, off, none⟩ → g ≠ b) : RB (w.setCell ⟨b, o, none⟩ v) A l := fun j hj => by
  obtain ⟨g, off, e, h1, h2⟩ := h j hj
  have := hb g off e
  exact ⟨g, off, e, by simpa [go_sem, Ne.symm this, this] using h1, by simpa [go_sem, Ne.symm this, this] using h2⟩

set_option maxRecDepth 100000 in
set_option maxHeartbeats 2000000 in
theorem arguedN (k : Nat) (s : ByteArray) (w : World) (hk : k ≠ 2 ∧ k ≠ 3 ∧ k ≠ 4) (hs : s.size ≤ 60000) : Calls Tryz.prog 52 #[.int .i64 k, .string s] w (ArgPost (pArg k s.data.toList) w) := by
  generalize hv : vL none 0 (pArg k s.data.toList) = v
  have HE : Hid (pArg k s.data.toList = lN k (valD 2147483647 0 (Lib.trimPrefix s.data.toList [32]))) := Lib.hid (by rw [pArg, if_neg hk.1, if_neg (by omega)])
  have HV := Lib.hid hv; clear hv
  have q2 : ((k : Int) == 2) = false := by rw [beq_eq_false_iff_ne]; omega
  have q3 : ((k : Int) == 3) = false := by rw [beq_eq_false_iff_ne]; omega
  have q4 : ((k : Int) == 4) = false := by rw [beq_eq_false_iff_ne]; omega
  have hcp := fun W => cutPrefix_any s ⟨#[32]⟩ W
  have e32 : (⟨#[32]⟩ : ByteArray).data.toList = [32] := rfl
  rw [e32] at hcp
  have htl := trim_len s.data.toList [32]
  rw [L_len] at htl
  generalize Lib.trimPrefix s.data.toList [32] = r at *
  generalize Lib.hasPrefix s.data.toList [32] = d at *
  have hdg := fun W => pdigits_any (bs r) 2147483647 W (by rw [bs_size]; omega) (by omega)
  rw [bs_L] at hdg
  generalize valD 2147483647 0 r = q at *
  clear e32 hk
  go_enter Tryz.func52, Tryz.ntmps52
  go_wp2_with (first | (go_at_call 48; refine (hcp _).mono ?_; rintro e w2 ⟨rfl, rfl⟩) | (go_at_call 50; refine (hdg _).mono ?_; rintro e w2 ⟨rfl, rfl⟩))
  refine bodyPost_ret (v := v) ?_ rfl ⟨none, 0, ?_, ?_, (fun g off h => by cases h), ?_⟩
  · rw [← HV.out, HE.out]
    simp [results, Tryz.results52, go_sem, vL, lN, zT, zB]
  · rw [HV.out]
  · rw [HE.out]; exact RB.nil _ _
  · exact below_box2 _ _ _

set_option maxRecDepth 100000 in
set_option maxHeartbeats 4000000 in
theorem argued2 (s : ByteArray) (m : Int) (w : World) (hs : s.size ≤ 60000) (hm : w.cell? ⟨0, 0, none⟩ = some (.int .i64 m)) : Calls Tryz.prog 52 #[.int .i64 2, .string s] w (ArgPost (pArg 2 s.data.toList) w) := by
  have HE : Hid (pArg 2 s.data.toList = lS (keysP s.data.toList)) := Lib.hid (by rw [pArg, if_pos rfl])
  have hcp := fun W => cutPrefix_any s ⟨#[32]⟩ W
  have hky := fun W hm => keys_any s m W hs hm
  have hm2 : ∀ O1 O2 : Obj, ((w.alloc O1).alloc O2).cell? ⟨0, 0, none⟩ = some (.int .i64 m) := fun O1 O2 => keep_cell (below_box2 w O1 O2) hm
  have HM2 := Lib.hid hm2; clear hm2 hm
  generalize keysP s.data.toList = ks at *
  generalize Lib.trimPrefix s.data.toList _ = r at *
  generalize Lib.hasPrefix s.data.toList _ = d at *
  go_enter Tryz.func52, Tryz.ntmps52
  go_wp2_with (first | (go_at_call 48; refine (hcp _).mono ?_; rintro e w2 ⟨rfl, rfl⟩) | (go_at_call 65; refine (hky _ (HM2.out _ _)).mono ?_; rintro e w2 ⟨A, c, rfl, hrb, hfr, hb2⟩; have HRB := Lib.hid hrb; clear hrb; have HFR := Lib.hid hfr; clear hfr; obtain ⟨hc, hf⟩ := bcell hb2; have a0 : w2.cell? ⟨w.heap.size, 0, none⟩ = some (.int .i64 0) := (hc _ _ (by simp; try omega)).trans (by simp [go_sem]); have a1 : w2.cell? ⟨w.heap.size, 1, none⟩ = some (.int .i64 0) := (hc _ _ (by simp; try omega)).trans (by simp [go_sem]); have a2 : w2.cell? ⟨w.heap.size, 2, none⟩ = some (.slice none 0 0) := (hc _ _ (by simp; try omega)).trans (by simp [go_sem]); have a3 : w2.cell? ⟨w.heap.size, 3, none⟩ = some (.int .i64 0) := (hc _ _ (by simp; try omega)).trans (by simp [go_sem]); have a4 : w2.cell? ⟨w.heap.size, 4, none⟩ = some (.int .i64 0) := (hc _ _ (by simp; try omega)).trans (by simp [go_sem]); have a5 : w2.cell? ⟨w.heap.size, 5, none⟩ = some (.string ⟨#[]⟩) := (hc _ _ (by simp; try omega)).trans (by simp [go_sem]); have a6 : w2.cell? ⟨w.heap.size, 6, none⟩ = some (.bool false) := (hc _ _ (by simp; try omega)).trans (by simp [go_sem]); have a7 : w2.cell? ⟨w.heap.size, 7, none⟩ = some (.bool false) := (hc _ _ (by simp; try omega)).trans (by simp [go_sem]); have a8 : w2.cell? ⟨w.heap.size, 8, none⟩ = some (.bool false) := (hc _ _ (by simp; try omega)).trans (by simp [go_sem]); have a9 : w2.cell? ⟨w.heap.size, 9, none⟩ = some (.bool false) := (hc _ _ (by simp; try omega)).trans (by simp [go_sem]); have a10 : w2.cell? ⟨w.heap.size, 10, none⟩ = some (.string ⟨#[]⟩) := (hc _ _ (by simp; try omega)).trans (by simp [go_sem]); have a11 : w2.cell? ⟨w.heap.size, 11, none⟩ = some (.string ⟨#[]⟩) := (hc _ _ (by simp; try omega)).trans (by simp [go_sem]); have b0 : w2.cell? ⟨w.heap.size + 1, 0, none⟩ = some (.int .i64 2) := (hc _ _ (by simp; try omega)).trans (by simp [go_sem]); have b1 : w2.cell? ⟨w.heap.size + 1, 1, none⟩ = some (.int .i64 0) := (hc _ _ (by simp; try omega)).trans (by simp [go_sem]); have b2 : w2.cell? ⟨w.heap.size + 1, 2, none⟩ = some (.slice none 0 0) := (hc _ _ (by simp; try omega)).trans (by simp [go_sem]); have b3 : w2.cell? ⟨w.heap.size + 1, 3, none⟩ = some (.int .i64 0) := (hc _ _ (by simp; try omega)).trans (by simp [go_sem]); have b4 : w2.cell? ⟨w.heap.size + 1, 4, none⟩ = some (.int .i64 0) := (hc _ _ (by simp; try omega)).trans (by simp [go_sem]); have b5 : w2.cell? ⟨w.heap.size + 1, 5, none⟩ = some (.string ⟨#[]⟩) := (hc _ _ (by simp; try omega)).trans (by simp [go_sem]); have b6 : w2.cell? ⟨w.heap.size + 1, 6, none⟩ = some (.bool false) := (hc _ _ (by simp; try omega)).trans (by simp [go_sem]); have b7 : w2.cell? ⟨w.heap.size + 1, 7, none⟩ = some (.bool false) := (hc _ _ (by simp; try omega)).trans (by simp [go_sem]); have b8 : w2.cell? ⟨w.heap.size + 1, 8, none⟩ = some (.bool false) := (hc _ _ (by simp; try omega)).trans (by simp [go_sem]); have b9 : w2.cell? ⟨w.heap.size + 1, 9, none⟩ = some (.bool false) := (hc _ _ (by simp; try omega)).trans (by simp [go_sem]); have b10 : w2.cell? ⟨w.heap.size + 1, 10, none⟩ = some (.string ⟨#[]⟩) := (hc _ _ (by simp; try omega)).trans (by simp [go_sem]); have b11 : w2.cell? ⟨w.heap.size + 1, 11, none⟩ = some (.string ⟨#[]⟩) := (hc _ _ (by simp; try omega)).trans (by simp [go_sem]); have fa : ∀ o, w2.frozen? ⟨w.heap.size, o, none⟩ = false := fun o => (hf _ _ (by simp; try omega)).trans (by simp [go_sem]); have fb : ∀ o, w2.frozen? ⟨w.heap.size + 1, o, none⟩ = false := fun o => (hf _ _ (by simp; try omega)).trans (by simp [go_sem]); clear hc hf))
  refine bodyPost_ret (v := vL A c (pArg 2 s.data.toList)) ?_ rfl ⟨A, c, ?_, ?_, (fun g off h => by have := HFR.out g off h; simp at this; omega), ?_⟩
  · rw [HE.out]
    simp [results, Tryz.results52, go_sem, vL, lS, zT, zB, a0, a1, a2, a3, a4, a5, a6, a7, a8, a9, a10, a11, b0, b1, b2, b3, b4, b5, b6, b7, b8, b9, b10, b11, fa, fb]
  · rfl
  · rw [HE.out]
    have hne : ∀ g off, A = some ⟨g, off, none⟩ → g ≠ w.heap.size := fun g off h => by have := HFR.out g off h; simp at this; omega
    have hne2 : ∀ g off, A = some ⟨g, off, none⟩ → g ≠ w.heap.size + 1 := fun g off h => by have := HFR.out g off h; simp at this; omega
    (iterate 12 (refine RB.set ?_ hne))
    exact HRB.out.set hne2
  · (iterate 12 (refine below_set ?_ (Nat.le_refl _)))
    exact below_set (keep_below (below_box2 _ _ _) hb2 (by simp; omega)) (by omega)

set_option maxRecDepth 100000 in
set_option maxHeartbeats 4000000 in
theorem arguedF (k : Nat) (s : ByteArray) (w : World) (hk : k = 3 ∨ k = 4) (hs : s.size ≤ 60000) : Calls Tryz.prog 52 #[.int .i64 k, .string s] w (ArgPost (pArg k s.data.toList) w) := by
  generalize hv : vL none 0 (pArg k s.data.toList) = v
  have HV := Lib.hid hv; clear hv
  have hpb : (pArg k s.data.toList).bys = [] := by rw [pArg, if_neg (by omega), if_pos hk]; split <;> rfl
  have HPB := Lib.hid hpb; clear hpb
  have q2 : ((k : Int) == 2) = false := by rw [beq_eq_false_iff_ne]; omega
  have hcp := fun W => cutPrefix_any s ⟨#[32]⟩ W
  have e32 : (⟨#[32]⟩ : ByteArray).data.toList = [32] := rfl
  rw [e32] at hcp
  have htl := trim_len s.data.toList [32]
  rw [L_len] at htl
  cases hd : Lib.hasPrefix s.data.toList [32]
  · have HE : Hid (pArg k s.data.toList = lW k) := Lib.hid (by rw [pArg, if_neg (by omega), if_pos hk, hd]; rfl)
    rw [hd] at hcp
    generalize Lib.trimPrefix s.data.toList [32] = r at *
    clear e32 hd
    rcases hk with rfl | rfl
    all_goals
      go_enter Tryz.func52, Tryz.ntmps52
      go_wp2_with (first | (go_at_call 48; refine (hcp _).mono ?_; rintro e w2 ⟨rfl, rfl⟩))
      refine bodyPost_ret (v := v) ?_ rfl ⟨none, 0, ?_, ?_, (fun g off h => by cases h), ?_⟩
      · rw [← HV.out, HE.out]
        simp [results, Tryz.results52, go_sem, vL, lW, zT, zB]
      · rw [HV.out]
      · rw [HPB.out]; exact RB.nil _ _
      · exact below_box2 _ _ _
  · have HE : Hid (pArg k s.data.toList = lT k ((ptG (Lib.trimPrefix s.data.toList [32])).getD zT)) := Lib.hid (by rw [pArg, if_neg (by omega), if_pos hk, hd]; rfl)
    rw [hd] at hcp
    generalize Lib.trimPrefix s.data.toList [32] = r at *
    clear e32 hd
    have htp := fun W => tparse_any (bs r) W (by rw [bs_size]; omega)
    rw [bs_L] at htp
    generalize ptErr (ptG r) = er at *
    generalize (ptG r).getD zT = t at *
    obtain ⟨col, op, arg, nt⟩ := t
    unfold vT at htp
    simp only at htp
    rcases hk with rfl | rfl
    · go_enter Tryz.func52, Tryz.ntmps52
      go_wp2_with (first | (go_at_call 48; refine (hcp _).mono ?_; rintro e w2 ⟨rfl, rfl⟩) | (go_at_call 66; refine (htp _).mono ?_; rintro e w2 ⟨rfl, hb2⟩; obtain ⟨hc, hf⟩ := bcell hb2; have a0 : w2.cell? ⟨w.heap.size, 0, none⟩ = some (.int .i64 0) := (hc _ _ (by simp; try omega)).trans (by simp [go_sem]); have a1 : w2.cell? ⟨w.heap.size, 1, none⟩ = some (.int .i64 0) := (hc _ _ (by simp; try omega)).trans (by simp [go_sem]); have a2 : w2.cell? ⟨w.heap.size, 2, none⟩ = some (.slice none 0 0) := (hc _ _ (by simp; try omega)).trans (by simp [go_sem]); have a3 : w2.cell? ⟨w.heap.size, 3, none⟩ = some (.int .i64 0) := (hc _ _ (by simp; try omega)).trans (by simp [go_sem]); have a4 : w2.cell? ⟨w.heap.size, 4, none⟩ = some (.int .i64 0) := (hc _ _ (by simp; try omega)).trans (by simp [go_sem]); have a5 : w2.cell? ⟨w.heap.size, 5, none⟩ = some (.string ⟨#[]⟩) := (hc _ _ (by simp; try omega)).trans (by simp [go_sem]); have a6 : w2.cell? ⟨w.heap.size, 6, none⟩ = some (.bool false) := (hc _ _ (by simp; try omega)).trans (by simp [go_sem]); have a7 : w2.cell? ⟨w.heap.size, 7, none⟩ = some (.bool false) := (hc _ _ (by simp; try omega)).trans (by simp [go_sem]); have a8 : w2.cell? ⟨w.heap.size, 8, none⟩ = some (.bool false) := (hc _ _ (by simp; try omega)).trans (by simp [go_sem]); have a9 : w2.cell? ⟨w.heap.size, 9, none⟩ = some (.bool false) := (hc _ _ (by simp; try omega)).trans (by simp [go_sem]); have a10 : w2.cell? ⟨w.heap.size, 10, none⟩ = some (.string ⟨#[]⟩) := (hc _ _ (by simp; try omega)).trans (by simp [go_sem]); have a11 : w2.cell? ⟨w.heap.size, 11, none⟩ = some (.string ⟨#[]⟩) := (hc _ _ (by simp; try omega)).trans (by simp [go_sem]); have b0 : w2.cell? ⟨w.heap.size + 1, 0, none⟩ = some (.int .i64 3) := (hc _ _ (by simp; try omega)).trans (by simp [go_sem]); have b1 : w2.cell? ⟨w.heap.size + 1, 1, none⟩ = some (.int .i64 0) := (hc _ _ (by simp; try omega)).trans (by simp [go_sem]); have b2 : w2.cell? ⟨w.heap.size + 1, 2, none⟩ = some (.slice none 0 0) := (hc _ _ (by simp; try omega)).trans (by simp [go_sem]); have b3 : w2.cell? ⟨w.heap.size + 1, 3, none⟩ = some (.int .i64 0) := (hc _ _ (by simp; try omega)).trans (by simp [go_sem]); have b4 : w2.cell? ⟨w.heap.size + 1, 4, none⟩ = some (.int .i64 0) := (hc _ _ (by simp; try omega)).trans (by simp [go_sem]); have b5 : w2.cell? ⟨w.heap.size + 1, 5, none⟩ = some (.string ⟨#[]⟩) := (hc _ _ (by simp; try omega)).trans (by simp [go_sem]); have b6 : w2.cell? ⟨w.heap.size + 1, 6, none⟩ = some (.bool false) := (hc _ _ (by simp; try omega)).trans (by simp [go_sem]); have b7 : w2.cell? ⟨w.heap.size + 1, 7, none⟩ = some (.bool false) := (hc _ _ (by simp; try omega)).trans (by simp [go_sem]); have b8 : w2.cell? ⟨w.heap.size + 1, 8, none⟩ = some (.bool false) := (hc _ _ (by simp; try omega)).trans (by simp [go_sem]); have b9 : w2.cell? ⟨w.heap.size + 1, 9, none⟩ = some (.bool false) := (hc _ _ (by simp; try omega)).trans (by simp [go_sem]); have b10 : w2.cell? ⟨w.heap.size + 1, 10, none⟩ = some (.string ⟨#[]⟩) := (hc _ _ (by simp; try omega)).trans (by simp [go_sem]); have b11 : w2.cell? ⟨w.heap.size + 1, 11, none⟩ = some (.string ⟨#[]⟩) := (hc _ _ (by simp; try omega)).trans (by simp [go_sem]); have fa : ∀ o, w2.frozen? ⟨w.heap.size, o, none⟩ = false := fun o => (hf _ _ (by simp; try omega)).trans (by simp [go_sem]); have fb : ∀ o, w2.frozen? ⟨w.heap.size + 1, o, none⟩ = false := fun o => (hf _ _ (by simp; try omega)).trans (by simp [go_sem]); clear hc hf))
      refine bodyPost_ret (v := v) ?_ rfl ⟨none, 0, ?_, ?_, (fun g off h => by cases h), ?_⟩
      · rw [← HV.out, HE.out]
        simp [results, Tryz.results52, go_sem, vL, lT, zT, zB, a0, a1, a2, a3, a4, a5, a6, a7, a8, a9, a10, a11, b0, b1, b2, b3, b4, b5, b6, b7, b8, b9, b10, b11, fa, fb]
      · rw [HV.out]
      · rw [HPB.out]; exact RB.nil _ _
      · (iterate 17 (refine below_set ?_ (by omega))); exact keep_below (below_box2 _ _ _) hb2 (by simp; omega)
    · go_enter Tryz.func52, Tryz.ntmps52
      go_wp2_with (first | (go_at_call 48; refine (hcp _).mono ?_; rintro e w2 ⟨rfl, rfl⟩) | (go_at_call 66; refine (htp _).mono ?_; rintro e w2 ⟨rfl, hb2⟩; obtain ⟨hc, hf⟩ := bcell hb2; have a0 : w2.cell? ⟨w.heap.size, 0, none⟩ = some (.int .i64 0) := (hc _ _ (by simp; try omega)).trans (by simp [go_sem]); have a1 : w2.cell? ⟨w.heap.size, 1, none⟩ = some (.int .i64 0) := (hc _ _ (by simp; try omega)).trans (by simp [go_sem]); have a2 : w2.cell? ⟨w.heap.size, 2, none⟩ = some (.slice none 0 0) := (hc _ _ (by simp; try omega)).trans (by simp [go_sem]); have a3 : w2.cell? ⟨w.heap.size, 3, none⟩ = some (.int .i64 0) := (hc _ _ (by simp; try omega)).trans (by simp [go_sem]); have a4 : w2.cell? ⟨w.heap.size, 4, none⟩ = some (.int .i64 0) := (hc _ _ (by simp; try omega)).trans (by simp [go_sem]); have a5 : w2.cell? ⟨w.heap.size, 5, none⟩ = some (.string ⟨#[]⟩) := (hc _ _ (by simp; try omega)).trans (by simp [go_sem]); have a6 : w2.cell? ⟨w.heap.size, 6, none⟩ = some (.bool false) := (hc _ _ (by simp; try omega)).trans (by simp [go_sem]); have a7 : w2.cell? ⟨w.heap.size, 7, none⟩ = some (.bool false) := (hc _ _ (by simp; try omega)).trans (by simp [go_sem]); have a8 : w2.cell? ⟨w.heap.size, 8, none⟩ = some (.bool false) := (hc _ _ (by simp; try omega)).trans (by simp [go_sem]); have a9 : w2.cell? ⟨w.heap.size, 9, none⟩ = some (.bool false) := (hc _ _ (by simp; try omega)).trans (by simp [go_sem]); have a10 : w2.cell? ⟨w.heap.size, 10, none⟩ = some (.string ⟨#[]⟩) := (hc _ _ (by simp; try omega)).trans (by simp [go_sem]); have a11 : w2.cell? ⟨w.heap.size, 11, none⟩ = some (.string ⟨#[]⟩) := (hc _ _ (by simp; try omega)).trans (by simp [go_sem]); have b0 : w2.cell? ⟨w.heap.size + 1, 0, none⟩ = some (.int .i64 4) := (hc _ _ (by simp; try omega)).trans (by simp [go_sem]); have b1 : w2.cell? ⟨w.heap.size + 1, 1, none⟩ = some (.int .i64 0) := (hc _ _ (by simp; try omega)).trans (by simp [go_sem]); have b2 : w2.cell? ⟨w.heap.size + 1, 2, none⟩ = some (.slice none 0 0) := (hc _ _ (by simp; try omega)).trans (by simp [go_sem]); have b3 : w2.cell? ⟨w.heap.size + 1, 3, none⟩ = some (.int .i64 0) := (hc _ _ (by simp; try omega)).trans (by simp [go_sem]); have b4 : w2.cell? ⟨w.heap.size + 1, 4, none⟩ = some (.int .i64 0) := (hc _ _ (by simp; try omega)).trans (by simp [go_sem]); have b5 : w2.cell? ⟨w.heap.size + 1, 5, none⟩ = some (.string ⟨#[]⟩) := (hc _ _ (by simp; try omega)).trans (by simp [go_sem]); have b6 : w2.cell? ⟨w.heap.size + 1, 6, none⟩ = some (.bool false) := (hc _ _ (by simp; try omega)).trans (by simp [go_sem]); have b7 : w2.cell? ⟨w.heap.size + 1, 7, none⟩ = some (.bool false) := (hc _ _ (by simp; try omega)).trans (by simp [go_sem]); have b8 : w2.cell? ⟨w.heap.size + 1, 8, none⟩ = some (.bool false) := (hc _ _ (by simp; try omega)).trans (by simp [go_sem]); have b9 : w2.cell? ⟨w.heap.size + 1, 9, none⟩ = some (.bool false) := (hc _ _ (by simp; try omega)).trans (by simp [go_sem]); have b10 : w2.cell? ⟨w.heap.size + 1, 10, none⟩ = some (.string ⟨#[]⟩) := (hc _ _ (by simp; try omega)).trans (by simp [go_sem]); have b11 : w2.cell? ⟨w.heap.size + 1, 11, none⟩ = some (.string ⟨#[]⟩) := (hc _ _ (by simp; try omega)).trans (by simp [go_sem]); have fa : ∀ o, w2.frozen? ⟨w.heap.size, o, none⟩ = false := fun o => (hf _ _ (by simp; try omega)).trans (by simp [go_sem]); have fb : ∀ o, w2.frozen? ⟨w.heap.size + 1, o, none⟩ = false := fun o => (hf _ _ (by simp; try omega)).trans (by simp [go_sem]); clear hc hf))
      refine bodyPost_ret (v := v) ?_ rfl ⟨none, 0, ?_, ?_, (fun g off h => by cases h), ?_⟩
      · rw [← HV.out, HE.out]
        simp [results, Tryz.results52, go_sem, vL, lT, zT, zB, a0, a1, a2, a3, a4, a5, a6, a7, a8, a9, a10, a11, b0, b1, b2, b3, b4, b5, b6, b7, b8, b9, b10, b11, fa, fb]
      · rw [HV.out]
      · rw [HPB.out]; exact RB.nil _ _
      · (iterate 17 (refine below_set ?_ (by omega))); exact keep_below (below_box2 _ _ _) hb2 (by simp; omega)
end Go.Proofs.YtckmkhcahnijmaaGreatDoor
