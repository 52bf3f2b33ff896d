/- The walk of the program: filter.Parse. -/
import Derived.RegionTactic
import Derived.BigRegion
import Derived.Test.YtckmkhcahnijmaaGreatDoorV5
import Derived.Test.YtckmkhcahnijmaaGreatDoorV3
namespace Go.Proofs.YtckmkhcahnijmaaGreatDoor
open Go.RowKit
set_option linter.unusedVariables false
set_option linter.unusedSimpArgs false

theorem indexByte_any (s : ByteArray) (c : UInt8) (w : World) :
    Calls Tryz.prog 75 #[.string s, .int .u8 c.toNat] w fun e w' => e = .returned (.int .i64 (Lib.indexByte s.data.toList c)) ∧ w = w' :=
  (Tryz.strings_IndexByte s c.toNat w).mono fun e w' ⟨he, hw⟩ => ⟨by rw [he]; simp, hw.symm⟩
def ptErr (o : Option Tst) : Int := if o.isSome then 0 else 3
theorem ptG_nil {L : List UInt8} (h : ptRest L = []) : ptG L = none := by rw [ptG, h]
theorem ptG_cons {L : List UInt8} {c : UInt8} {a : List UInt8} (h : ptRest L = c :: a) : ptG L = if tRight (ptTest L c a) && (tPrint (ptTest L c a) == L) then some (ptTest L c a) else none := by rw [ptG, h]

set_option maxRecDepth 100000 in
set_option maxHeartbeats 2000000 in
theorem tparse_any (s : ByteArray) (w : World) (hs : s.size ≤ 60000) :
    Calls Tryz.prog 66 #[.string s] w fun e w' => e = .returned (.tuple #[vT ((ptG s.data.toList).getD zT), .int .i64 (ptErr (ptG s.data.toList))]) ∧ Below w.heap.size w w' := by
  generalize hv : (ptG s.data.toList).getD zT = v
  generalize hx : ptErr (ptG s.data.toList) = x
  have HV := Lib.hid hv; clear hv
  have HX := Lib.hid hx; clear hx
  have hcp := fun W => cutPrefix_any s ⟨#[33]⟩ W
  have e33 : (⟨#[33]⟩ : ByteArray).data.toList = [33] := rfl
  rw [e33] at hcp
  generalize hr : Lib.trimPrefix s.data.toList [33] = r at *
  generalize hnt : Lib.hasPrefix s.data.toList [33] = nt at *
  have hrl : r.length ≤ s.size := by
    rw [← hr]
    have : (Lib.trimPrefix s.data.toList [33]).length ≤ s.data.toList.length := by
      unfold Lib.trimPrefix; split
      · simp
      · exact Nat.le_refl _
    rw [L_len] at this; exact this
  have hdg := fun W => pdigits_any (bs r) 41 W (by rw [bs_size]; omega) (by omega)
  rw [bs_L] at hdg
  have hcl := cnt_le dig r
  have hbz : (bs r).size = r.length := rfl
  have HPR : Hid (ptRest s.data.toList = r.drop (cnt dig r)) := Lib.hid (by rw [ptRest, hr])
  have HPT : Hid (∀ c a, ptTest s.data.toList c a = ⟨(valD 41 0 r : Int) - 1, Lib.indexByte signsL c, bs a, nt⟩) := Lib.hid (fun c a => by rw [ptTest, hr, hnt])
  clear hr hnt e33
  generalize hV : valD 41 0 r = q at *
  have hq : q ≤ 41 := by
    rw [← hV]
    have : ∀ (l : List UInt8) (v : Nat), v ≤ 41 → valD 41 v l ≤ 41 := by
      intro l
      induction l with
      | nil => intro v h; exact h
      | cons c l ih => intro v h; simp only [valD]; split; exact ih _ (by omega); exact h
    exact this r 0 (by omega)
  clear hV
  generalize hk : cnt dig r = k at *
  clear hk
  by_cases hnil : r.drop k = []
  · have f1 : ((bs r).extract k r.length).toList = [] := by rw [toList_L, ext_L, bs_L]; simpa using hnil
    have f2 : ((bs r).extract k r.length).toList.isEmpty = true := by rw [f1]; rfl
    have HG : Hid (ptG s.data.toList = none) := Lib.hid (ptG_nil (HPR.out.trans hnil))
    clear hnil
    go_enter Tryz.func66, Tryz.ntmps66
    go_wp2_with (first | (go_at_call 48; refine (hcp _).mono ?_; rintro e w2 ⟨rfl, rfl⟩) | (go_at_call 50; refine (hdg _).mono ?_; rintro e w2 ⟨rfl, rfl⟩))
    refine bodyPost_ret (v := .tuple #[vT v, .int .i64 x]) ?_ rfl ⟨rfl, ?_⟩
    · rw [← HV.out, ← HX.out, HG.out]
      simp [results, Tryz.results66, go_sem, vT, zT, ptErr]
    · exact below_box2 _ _ _
  · obtain ⟨c, a, hca⟩ : ∃ c a, r.drop k = c :: a := by
      cases hd : r.drop k with
      | nil => exact absurd hd hnil
      | cons c a => exact ⟨c, a, rfl⟩
    have hlen : (r.drop k).length = a.length + 1 := by rw [hca]; rfl
    rw [List.length_drop] at hlen
    have hkr : k < r.length := by omega
    have hx : (bs r).extract k r.length = bs (c :: a) := ba_ext (by rw [ext_L, bs_L, bs_L, ← hca, List.take_of_length_le (Nat.le_refl _)])
    have f1 : ¬ (bs (c :: a)).toList = [] := by rw [toList_L, bs_L]; simp
    have f2 : (bs (c :: a)).toList.isEmpty = false := by rw [toList_L, bs_L]; rfl
    have f3 : (bs (c :: a)).size = a.length + 1 := by rw [bs_size]; rfl
    have f4 : (bs (c :: a)).extract 1 (a.length + 1) = bs a := ba_ext (by rw [ext_L, bs_L, bs_L]; simp)
    have HT := Lib.hid (HPT.out c a)
    have HG := Lib.hid (ptG_cons (HPR.out.trans hca))
    clear hnil hca HPT
    go_enter Tryz.func66, Tryz.ntmps66
    go_upto_region 7 with (first | (go_at_call 48; refine (hcp _).mono ?_; rintro e w2 ⟨rfl, rfl⟩) | (go_at_call 50; refine (hdg _).mono ?_; rintro e w2 ⟨rfl, rfl⟩))
    have v1 : IntKind.i64.wrap ((q : Int) - 1) = (q : Int) - 1 := IntWalk.i64_in _ (by omega)
    have v2 : (1 : Int) ≤ (a.length : Int) + 1 := by omega
    obtain ⟨W, hWe⟩ : ∃ W, W = (w.alloc (.cells #[.int .i64 0, .int .i64 0, .string ⟨#[]⟩, .bool false] 32)).alloc (.cells #[.int .i64 0, .int .i64 0, .string ⟨#[]⟩, .bool false] 32) := ⟨_, rfl⟩
    have hbW : Below w.heap.size w W := by rw [hWe]; exact below_box2 _ _ _
    have hsz : w.heap.size + 1 < W.heap.size := by rw [hWe]; simp
    have c0 : W.cell? ⟨w.heap.size + 1, 0, none⟩ = some (.int .i64 0) := by rw [hWe]; simp [go_sem]
    have c1 : W.cell? ⟨w.heap.size + 1, 1, none⟩ = some (.int .i64 0) := by rw [hWe]; simp [go_sem]
    have c2 : W.cell? ⟨w.heap.size + 1, 2, none⟩ = some (.string ⟨#[]⟩) := by rw [hWe]; simp [go_sem]
    have c3 : W.cell? ⟨w.heap.size + 1, 3, none⟩ = some (.bool false) := by rw [hWe]; simp [go_sem]
    have d0 : W.cell? ⟨w.heap.size, 0, none⟩ = some (.int .i64 0) := by rw [hWe]; simp [go_sem]
    have d1 : W.cell? ⟨w.heap.size, 1, none⟩ = some (.int .i64 0) := by rw [hWe]; simp [go_sem]
    have d2 : W.cell? ⟨w.heap.size, 2, none⟩ = some (.string ⟨#[]⟩) := by rw [hWe]; simp [go_sem]
    have d3 : W.cell? ⟨w.heap.size, 3, none⟩ = some (.bool false) := by rw [hWe]; simp [go_sem]
    have e0 : ∀ o, W.frozen? ⟨w.heap.size, o, none⟩ = false := fun o => by rw [hWe]; simp [go_sem]
    have e1 : ∀ o, W.frozen? ⟨w.heap.size + 1, o, none⟩ = false := fun o => by rw [hWe]; simp [go_sem]
    rw [← hWe]
    clear hWe
    have hix := fun W => indexByte_any signsB c W
    have esg : signsB.data.toList = signsL := rfl
    rw [esg] at hix
    unfold signsB at hix
    have h0 : (bs (c :: a))[0]'(by rw [f3]; omega) = c := rfl
    go_region
    go_upto_region 9 with (go_at_call 75; refine (hix _).mono ?_; rintro e w2 ⟨rfl, rfl⟩)
    obtain ⟨W2, hWe⟩ : ∃ W2, W2 = ((((W.setCell { block := w.heap.size + 1, off := 0 } (Value.int IntKind.i64 ((q : Int) - 1))).setCell { block := w.heap.size + 1, off := 3 } (Value.bool nt)).setCell
        { block := w.heap.size + 1, off := 2 } (Value.string (bs a))).setCell { block := w.heap.size + 1, off := 1 } (Value.int IntKind.i64 (Lib.indexByte signsL c))).drew := ⟨_, rfl⟩
    have hbW2 : Below w.heap.size w W2 := by
      rw [hWe]; refine Below.drew ?_; (iterate 4 (refine below_set ?_ (by omega))); exact hbW
    have g0 : W2.cell? ⟨w.heap.size + 1, 0, none⟩ = some (.int .i64 ((q : Int) - 1)) := by rw [hWe]; simp [go_sem, c0, c1, c2, c3, d0, d1, d2, d3, e0, e1]
    have g1 : W2.cell? ⟨w.heap.size + 1, 1, none⟩ = some (.int .i64 (Lib.indexByte signsL c)) := by rw [hWe]; simp [go_sem, c0, c1, c2, c3, d0, d1, d2, d3, e0, e1]
    have g2 : W2.cell? ⟨w.heap.size + 1, 2, none⟩ = some (.string (bs a)) := by rw [hWe]; simp [go_sem, c0, c1, c2, c3, d0, d1, d2, d3, e0, e1]
    have g3 : W2.cell? ⟨w.heap.size + 1, 3, none⟩ = some (.bool nt) := by rw [hWe]; simp [go_sem, c0, c1, c2, c3, d0, d1, d2, d3, e0, e1]
    have k0 : W2.cell? ⟨w.heap.size, 0, none⟩ = some (.int .i64 0) := by rw [hWe]; simp [go_sem, c0, c1, c2, c3, d0, d1, d2, d3, e0, e1]
    have k1 : W2.cell? ⟨w.heap.size, 1, none⟩ = some (.int .i64 0) := by rw [hWe]; simp [go_sem, c0, c1, c2, c3, d0, d1, d2, d3, e0, e1]
    have k2 : W2.cell? ⟨w.heap.size, 2, none⟩ = some (.string ⟨#[]⟩) := by rw [hWe]; simp [go_sem, c0, c1, c2, c3, d0, d1, d2, d3, e0, e1]
    have k3 : W2.cell? ⟨w.heap.size, 3, none⟩ = some (.bool false) := by rw [hWe]; simp [go_sem, c0, c1, c2, c3, d0, d1, d2, d3, e0, e1]
    have l0 : ∀ o, W2.frozen? ⟨w.heap.size, o, none⟩ = false := fun o => by rw [hWe]; simp [go_sem, e0, e1]
    have hsz2 : w.heap.size + 1 < W2.heap.size := by rw [hWe]; simpa using hsz
    rw [← hWe]
    clear hWe c0 c1 c2 c3 d0 d1 d2 d3 e0 e1 hsz hbW hix esg
    have hsa : (bs a).size ≤ 65536 := by rw [bs_size]; omega
    have htr := fun W => tright_any ⟨(q : Int) - 1, Lib.indexByte signsL c, bs a, nt⟩ W hsa
    have htp := fun W => tprint_any ⟨(q : Int) - 1, Lib.indexByte signsL c, bs a, nt⟩ W hsa
    unfold vT at htr htp
    simp only at htr htp
    have HG2 : Hid (ptG s.data.toList = if tRight ⟨(q : Int) - 1, Lib.indexByte signsL c, bs a, nt⟩ && (tPrint ⟨(q : Int) - 1, Lib.indexByte signsL c, bs a, nt⟩ == s.data.toList) then some ⟨(q : Int) - 1, Lib.indexByte signsL c, bs a, nt⟩ else none) := Lib.hid (by rw [HG.out, HT.out])
    clear HG HT
    generalize hR : tRight ⟨(q : Int) - 1, Lib.indexByte signsL c, bs a, nt⟩ = R at *
    generalize hP : tPrint ⟨(q : Int) - 1, Lib.indexByte signsL c, bs a, nt⟩ = P at *
    clear hR hP
    have keep : ∀ w2, Below W2.heap.size W2 w2 → (∀ o, w2.cell? ⟨w.heap.size, o, none⟩ = W2.cell? ⟨w.heap.size, o, none⟩) ∧ (∀ o, w2.frozen? ⟨w.heap.size, o, none⟩ = W2.frozen? ⟨w.heap.size, o, none⟩) ∧ (∀ o, w2.cell? ⟨w.heap.size + 1, o, none⟩ = W2.cell? ⟨w.heap.size + 1, o, none⟩) := fun w2 hb => by
      obtain ⟨p, q⟩ := bcell hb
      exact ⟨fun o => p _ o (by omega), fun o => q _ o (by omega), fun o => p _ o hsz2⟩
    have Keep := Lib.hid keep; clear keep
    have HB2 := Lib.hid hbW2; clear hbW2
    have fin : ∀ w3, Below W2.heap.size W2 w3 → Below w.heap.size w w3 := fun w3 hb => keep_below HB2.out hb HB2.out.size
    have Fin := Lib.hid fin; clear fin
    cases hR : R
    · have HN : Hid (ptG s.data.toList = none) := Lib.hid (by rw [HG2.out, hR]; rfl)
      rw [hR] at htr
      clear hR htp
      go_wp2_with (go_at_call 42; refine (htr _).mono ?_; rintro e w2 ⟨rfl, hb2⟩; obtain ⟨m0, m1, m2⟩ := Keep.out _ hb2; have n0 := (m0 0).trans k0; have n1 := (m0 1).trans k1; have n2 := (m0 2).trans k2; have n3 := (m0 3).trans k3; have o0 := fun o => (m1 o).trans (l0 o); clear m0 m1 m2)
      refine bodyPost_ret (v := .tuple #[vT v, .int .i64 x]) ?_ rfl ⟨rfl, ?_⟩
      · rw [← HV.out, ← HX.out, HN.out]
        simp [results, Tryz.results66, go_sem, vT, zT, ptErr, n0, n1, n2, n3, o0]
      · (iterate 4 (refine below_set ?_ (Nat.le_refl _))); exact Fin.out _ hb2
    · rw [hR] at htr
      have hsl : s.toList = s.data.toList := toList_L s
      have hpl : (bs P).toList = P := by rw [toList_L, bs_L]
      cases he : (bs P).toList == s.toList
      · have HN : Hid (ptG s.data.toList = none) := Lib.hid (by
          rw [hpl, hsl] at he
          rw [HG2.out, hR, he]; rfl)
        have hne : ((bs P).toList != s.toList) = true := by rw [bne, he]; rfl
        clear hR hsl hpl
        go_wp2_with (first | (go_at_call 42; refine (htr _).mono ?_; rintro e w2 ⟨rfl, hb2⟩; obtain ⟨m0, m1, m2⟩ := Keep.out _ hb2; have n0 := (m2 0).trans g0; have n1 := (m2 1).trans g1; have n2 := (m2 2).trans g2; have n3 := (m2 3).trans g3; clear m0 m1 m2) |
          (go_at_call 46; refine (htp _).mono ?_; rintro e w3 ⟨rfl, hb3⟩; have hb4 := keep_below hb2 hb3 hb2.size; clear n0 n1 n2 n3; obtain ⟨m0, m1, m2⟩ := Keep.out _ hb4; have n0 := (m0 0).trans k0; have n1 := (m0 1).trans k1; have n2 := (m0 2).trans k2; have n3 := (m0 3).trans k3; have o0 := fun o => (m1 o).trans (l0 o); clear m0 m1 m2))
        refine bodyPost_ret (v := .tuple #[vT v, .int .i64 x]) ?_ rfl ⟨rfl, ?_⟩
        · rw [← HV.out, ← HX.out, HN.out]
          simp [results, Tryz.results66, go_sem, vT, zT, ptErr, n0, n1, n2, n3, o0]
        · (iterate 4 (refine below_set ?_ (Nat.le_refl _))); exact Fin.out _ hb4
      · have HN : Hid (ptG s.data.toList = some ⟨(q : Int) - 1, Lib.indexByte signsL c, bs a, nt⟩) := Lib.hid (by
          rw [hpl, hsl] at he
          rw [HG2.out, hR, he]; rfl)
        have hne : ((bs P).toList != s.toList) = false := by rw [bne, he]; rfl
        clear hR hsl hpl
        go_wp2_with (first | (go_at_call 42; refine (htr _).mono ?_; rintro e w2 ⟨rfl, hb2⟩; obtain ⟨m0, m1, m2⟩ := Keep.out _ hb2; have n0 := (m2 0).trans g0; have n1 := (m2 1).trans g1; have n2 := (m2 2).trans g2; have n3 := (m2 3).trans g3; clear m0 m1 m2) |
          (go_at_call 46; refine (htp _).mono ?_; rintro e w3 ⟨rfl, hb3⟩; have hb4 := keep_below hb2 hb3 hb2.size; clear n0 n1 n2 n3; obtain ⟨m0, m1, m2⟩ := Keep.out _ hb4; have n0 := (m0 0).trans k0; have n1 := (m0 1).trans k1; have n2 := (m0 2).trans k2; have n3 := (m0 3).trans k3; have o0 := fun o => (m1 o).trans (l0 o); have p0 := (m2 0).trans g0; have p1 := (m2 1).trans g1; have p2 := (m2 2).trans g2; have p3 := (m2 3).trans g3; clear m0 m1 m2))
        refine bodyPost_ret (v := .tuple #[vT v, .int .i64 x]) ?_ rfl ⟨rfl, ?_⟩
        · rw [← HV.out, ← HX.out, HN.out]
          simp [results, Tryz.results66, go_sem, vT, zT, ptErr, n0, n1, n2, n3, o0]
        · (iterate 4 (refine below_set ?_ (Nat.le_refl _))); exact Fin.out _ hb4
end Go.Proofs.YtckmkhcahnijmaaGreatDoor
