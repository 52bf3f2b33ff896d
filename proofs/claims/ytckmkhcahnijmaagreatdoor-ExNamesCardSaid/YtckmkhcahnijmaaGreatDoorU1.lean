/- The walk of the program: ex.fits. -/
import Derived.Test.YtckmkhcahnijmaaGreatDoorR5
namespace Go.Proofs.YtckmkhcahnijmaaGreatDoor
open Go.RowKit
set_option linter.unusedVariables false
set_option linter.unusedSimpArgs false

def pFits (x : Ln) : Bool :=
  if isNum x.nm then decide (numLo x.nm ≤ x.n) && decide (x.n ≤ numHi x.nm) else if x.nm = 2 then bysOk x.bys else
  if x.nm = 3 ∨ x.nm = 4 then (if x.has then tRight x.t else sameT x.t zT) else
  if x.nm = 7 then !x.pat.data.toList.isEmpty && (noEnd x.pat.data.toList && noEnd x.wth.data.toList) else true

set_option maxRecDepth 100000 in
set_option maxHeartbeats 4000000 in
theorem pfits_any (A : Option Addr) (c : Nat) (x : Ln) (w : World) (hl : x.bys.length ≤ 65536) (hr : RB w A x.bys) (hs : x.t.arg.size ≤ 65536) (hp : x.pat.size ≤ 65536) (hq : x.wth.size ≤ 65536) :
    Calls Tryz.prog 27 #[vL A c x] w fun e w' => e = .returned (.bool (pFits x)) ∧ Below w.heap.size w w' := by
  have HR := Lib.hid hr; clear hr
  obtain ⟨nm, n, l, ⟨col, op, arg, nt⟩, has, whole, each, pat, wth⟩ := x
  unfold vL
  simp only at *
  have hbx := below_box w (.cells #[.int .i64 nm, .int .i64 n, .slice A l.length c, .int .i64 col, .int .i64 op, .string arg, .bool nt, .bool has, .bool whole, .bool each, .string pat, .string wth] 34)
  cases hnum : isNum nm
  · have hcs : nm = 2 ∨ nm = 3 ∨ nm = 4 ∨ nm = 7 ∨ (nm == 2) = false ∧ (nm == 3) = false ∧ (nm == 4) = false ∧ (nm == 7) = false := by
      simp only [beq_eq_false_iff_ne]; omega
    rcases hcs with rfl | rfl | rfl | rfl | ⟨q1, q2, q3, q4⟩
    · have hky := fun W (h : RB W A l) => keyed_any A c l W hl h
      go_enter Tryz.func27, Tryz.ntmps27
      go_wp2_with (first | (go_at_call 40; refine (numbered_any _ _).mono ?_; rintro e w' ⟨rfl, rfl⟩) | (go_at_call 41; refine (hky _ (HR.out.keep (below_box _ _))).mono ?_; rintro e w2 ⟨rfl, hb2⟩))
      go_ret
      exact ⟨ret_bool (by simp [pFits, hnum]), keep_below hbx hb2 (by simp)⟩
    · have ht := fun W => tright_any ⟨col, op, arg, nt⟩ W hs
      unfold vT at ht
      simp only at ht
      have et := eql_t2
      have gt := grd_t2
      have k7 : ∀ w2, Below (w.alloc (.cells #[.int .i64 3, .int .i64 n, .slice A l.length c, .int .i64 col, .int .i64 op, .string arg, .bool nt, .bool has, .bool whole, .bool each, .string pat, .string wth] 34)).heap.size (w.alloc (.cells #[.int .i64 3, .int .i64 n, .slice A l.length c, .int .i64 col, .int .i64 op, .string arg, .bool nt, .bool has, .bool whole, .bool each, .string pat, .string wth] 34)) w2 → w2.cell? ⟨w.heap.size, 7, none⟩ = some (.bool has) := fun w2 hb => keep_cell hb (by simp [go_sem])
      cases has
      · go_enter Tryz.func27, Tryz.ntmps27
        go_wp2_with (first | (go_at_call 40; refine (numbered_any _ _).mono ?_; rintro e w' ⟨rfl, rfl⟩))
        all_goals
          go_ret
          refine ⟨ret_bool ?_, hbx⟩
          go_light
          simp_all [pFits, sameT, zT, toList_L]
      · cases hT : tRight ⟨col, op, arg, nt⟩
        all_goals
          rw [hT] at ht
          go_enter Tryz.func27, Tryz.ntmps27
          go_wp2_with (first | (go_at_call 40; refine (numbered_any _ _).mono ?_; rintro e w' ⟨rfl, rfl⟩) | (go_at_call 42; refine (ht _).mono ?_; rintro e w2 ⟨rfl, hb2⟩; have k7' := k7 w2 hb2))
          go_ret
          exact ⟨ret_bool (by simp [pFits, hnum, hT]), keep_below hbx hb2 (by simp)⟩
    · have ht := fun W => tright_any ⟨col, op, arg, nt⟩ W hs
      unfold vT at ht
      simp only at ht
      have et := eql_t2
      have gt := grd_t2
      have k7 : ∀ w2, Below (w.alloc (.cells #[.int .i64 4, .int .i64 n, .slice A l.length c, .int .i64 col, .int .i64 op, .string arg, .bool nt, .bool has, .bool whole, .bool each, .string pat, .string wth] 34)).heap.size (w.alloc (.cells #[.int .i64 4, .int .i64 n, .slice A l.length c, .int .i64 col, .int .i64 op, .string arg, .bool nt, .bool has, .bool whole, .bool each, .string pat, .string wth] 34)) w2 → w2.cell? ⟨w.heap.size, 7, none⟩ = some (.bool has) := fun w2 hb => keep_cell hb (by simp [go_sem])
      cases has
      · go_enter Tryz.func27, Tryz.ntmps27
        go_wp2_with (first | (go_at_call 40; refine (numbered_any _ _).mono ?_; rintro e w' ⟨rfl, rfl⟩))
        all_goals
          go_ret
          refine ⟨ret_bool ?_, hbx⟩
          go_light
          simp_all [pFits, sameT, zT, toList_L]
      · cases hT : tRight ⟨col, op, arg, nt⟩
        all_goals
          rw [hT] at ht
          go_enter Tryz.func27, Tryz.ntmps27
          go_wp2_with (first | (go_at_call 40; refine (numbered_any _ _).mono ?_; rintro e w' ⟨rfl, rfl⟩) | (go_at_call 42; refine (ht _).mono ?_; rintro e w2 ⟨rfl, hb2⟩; have k7' := k7 w2 hb2))
          go_ret
          exact ⟨ret_bool (by simp [pFits, hnum, hT]), keep_below hbx hb2 (by simp)⟩
    · have h1 := fun W => ends_any pat W hp
      have h2 := fun W => ends_any wth W hq
      have k11 : ∀ w2, Below (w.alloc (.cells #[.int .i64 7, .int .i64 n, .slice A l.length c, .int .i64 col, .int .i64 op, .string arg, .bool nt, .bool has, .bool whole, .bool each, .string pat, .string wth] 34)).heap.size (w.alloc (.cells #[.int .i64 7, .int .i64 n, .slice A l.length c, .int .i64 col, .int .i64 op, .string arg, .bool nt, .bool has, .bool whole, .bool each, .string pat, .string wth] 34)) w2 → w2.cell? ⟨w.heap.size, 11, none⟩ = some (.string wth) := fun w2 hb => keep_cell hb (by simp [go_sem])
      cases e1 : noEnd pat.data.toList <;> cases e2 : noEnd wth.data.toList
      all_goals
        rw [e1] at h1
        rw [e2] at h2
        go_enter Tryz.func27, Tryz.ntmps27
        go_wp2_with (first | (go_at_call 40; refine (numbered_any _ _).mono ?_; rintro e w' ⟨rfl, rfl⟩) | (go_at_call 43; refine (h1 _).mono ?_; rintro e w2 ⟨rfl, hb2⟩; have k11' := k11 w2 hb2) | (go_at_call 43; refine (h2 _).mono ?_; rintro e w3 ⟨rfl, hb3⟩))
        all_goals
          go_ret
          refine ⟨ret_bool ?_, by first | exact hbx | exact keep_below hbx hb2 (by simp) | exact keep_below (keep_below hbx hb2 (by simp)) hb3 (Nat.le_trans (by simp) hb2.size)⟩
          go_light
          clear h1 h2
          simp_all [pFits, toList_L, -Array.toList_eq_nil_iff]
    · go_enter Tryz.func27, Tryz.ntmps27
      go_wp2_with (first | (go_at_call 40; refine (numbered_any _ _).mono ?_; rintro e w' ⟨rfl, rfl⟩))
      go_ret
      simp only [beq_eq_false_iff_ne] at q1 q2 q3 q4
      exact ⟨ret_bool (by simp [pFits, hnum, q1, q2, q3, q4]), hbx⟩
  · generalize h1 : numLo nm = lo
    generalize h2 : numHi nm = hi
    have H1 := Lib.hid h1; have H2 := Lib.hid h2; clear h1 h2
    go_enter Tryz.func27, Tryz.ntmps27
    go_wp2_with (first | (go_at_call 40; refine (numbered_any _ _).mono ?_; rw [hnum, H1.out, H2.out]; rintro e w' ⟨rfl, rfl⟩))
    all_goals
      go_ret
      refine ⟨ret_bool ?_, hbx⟩
      simp only [pFits, hnum, H1.out, H2.out]
      go_light
      clear HR
      simp_all <;> omega
end Go.Proofs.YtckmkhcahnijmaaGreatDoor
