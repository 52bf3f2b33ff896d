/- The walk of the reference: damierref25.Fits. -/
import Derived.Test.YtckmkhcahnijmaaGreatDoorH
namespace Go.Proofs.YtckmkhcahnijmaaGreatDoor
open Go.RowKit
set_option linter.unusedVariables false
set_option linter.unusedSimpArgs false

def numOk (nm n : Int) : Bool := if nm = 1 ∨ nm = 6 then decide (1 ≤ n) && decide (n ≤ 400) else if nm = 5 then decide (1 ≤ n) && decide (n ≤ 40) else if nm = 13 then decide (0 ≤ n) && decide (n ≤ 2147483647) else true
def bysOk (l : List (Int × Bool)) : Bool := decide (l.length ≤ 4) && l.all keyOk
def sameT (t u : Tst) : Bool := t.col == u.col && (t.op == u.op && (t.arg.data.toList == u.arg.data.toList && t.nt == u.nt))
def testOk (has : Bool) (t : Tst) : Bool := if has then tRight t else sameT t zT
def substOk (nm : Int) (pat wth : ByteArray) : Bool := nm != 7 || (!pat.data.toList.isEmpty && (noEnd pat.data.toList && noEnd wth.data.toList))
def rFits (x : Ln) : Bool := (decide (0 ≤ x.nm) && (decide (x.nm ≤ 13) && sameL x (bareL x))) && (numOk x.nm x.n && (bysOk x.bys && (testOk x.has x.t && substOk x.nm x.pat x.wth)))

/-- A line lies in a variable. -/
def Box (b T : Nat) (A : Option Addr) (c : Nat) (x : Ln) (w : World) : Prop :=
  w.cell? ⟨b, 0, none⟩ = some (.int .i64 x.nm) ∧ w.cell? ⟨b, 1, none⟩ = some (.int .i64 x.n) ∧ w.cell? ⟨b, 2, none⟩ = some (.slice A x.bys.length c) ∧
  w.cell? ⟨b, 3, none⟩ = some (.int .i64 x.t.col) ∧ w.cell? ⟨b, 4, none⟩ = some (.int .i64 x.t.op) ∧ w.cell? ⟨b, 5, none⟩ = some (.string x.t.arg) ∧ w.cell? ⟨b, 6, none⟩ = some (.bool x.t.nt) ∧
  w.cell? ⟨b, 7, none⟩ = some (.bool x.has) ∧ w.cell? ⟨b, 8, none⟩ = some (.bool x.whole) ∧ w.cell? ⟨b, 9, none⟩ = some (.bool x.each) ∧ w.cell? ⟨b, 10, none⟩ = some (.string x.pat) ∧ w.cell? ⟨b, 11, none⟩ = some (.string x.wth)

theorem Box.keep {b T : Nat} {A : Option Addr} {c : Nat} {x : Ln} {w w1 : World} (h : Box b T A c x w) (hb : Below w.heap.size w w1) : Box b T A c x w1 := by
  obtain ⟨k0, k1, k2, k3, k4, k5, k6, k7, k8, k9, k10, k11⟩ := h
  exact ⟨keep_cell hb k0, keep_cell hb k1, keep_cell hb k2, keep_cell hb k3, keep_cell hb k4, keep_cell hb k5, keep_cell hb k6, keep_cell hb k7, keep_cell hb k8, keep_cell hb k9, keep_cell hb k10, keep_cell hb k11⟩
theorem undrew {w w1 : World} (h : Below w.drew.heap.size w.drew w1) : Below w.heap.size w w1 := ⟨h.os, h.tape, h.output, h.size, h.block⟩
theorem RB.drew {w : World} {A l} (h : RB w A l) : RB w.drew A l := h
theorem RB.drewN {w : World} {A l} (h : RB w A l) (n : Nat) : RB (w.drewN n) A l := h
set_option maxRecDepth 100000 in
set_option maxHeartbeats 4000000 in
theorem rfits_any (A : Option Addr) (c : Nat) (x : Ln) (w : World) (hl : x.bys.length ≤ 65536) (hr : RB w A x.bys) (hs : x.t.arg.size ≤ 65536) (hp : x.pat.size ≤ 65536) (hq : x.wth.size ≤ 65536) :
    Calls Tryz.prog 22 #[vL A c x] w fun e w' => e = .returned (.bool (rFits x)) ∧ Below w.heap.size w w' := by
  have HR := Lib.hid hr; clear hr
  have hbare := fun w => bare_any A c x w
  have hsame : ∀ W : World, RB W A x.bys → Calls Tryz.prog 15 #[vL A c x, vL (if x.nm = 2 then A else none) (if x.nm = 2 then c else 0) (bareL x)] W fun e w' => e = .returned (.bool (sameL x (bareL x))) ∧ Below W.heap.size W w' := fun W h => by
    refine same_any A _ c _ x (bareL x) W hl ?_ h ?_
    · unfold bareL; simp only; split <;> simp_all
    · unfold bareL; simp only; split <;> simp_all [RB.nil]
  generalize hb : (if x.nm = 2 then A else none) = A2 at *
  generalize hc : (if x.nm = 2 then c else 0) = c2 at *
  generalize hB : bareL x = y at *
  have HB := Lib.hid hB; clear hb hc hB
  obtain ⟨nm, n, l, ⟨col, op, arg, nt⟩, has, whole, each, pat, wth⟩ := x
  generalize hsm : sameL ⟨nm, n, l, ⟨col, op, arg, nt⟩, has, whole, each, pat, wth⟩ y = sm at *
  have HSM := Lib.hid hsm; clear hsm
  unfold vL at *
  simp only at *
  go_enter Tryz.func22, Tryz.ntmps22
  go_upto_region 1 with fail
  go_cut [17] (fun s wx => s = .bool (!(decide (0 ≤ nm) && (decide (nm ≤ 13) && sm))) ∧ Box w.heap.size 26 A c ⟨nm, n, l, ⟨col, op, arg, nt⟩, has, whole, each, pat, wth⟩ wx ∧ RB wx A l ∧ Below w.heap.size w wx)
  case first =>
    have HB0 : Hid (Box w.heap.size 26 A c ⟨nm, n, l, ⟨col, op, arg, nt⟩, has, whole, each, pat, wth⟩ (w.alloc (.cells #[.int .i64 nm, .int .i64 n, .slice A l.length c, .int .i64 col, .int .i64 op, .string arg, .bool nt, .bool has, .bool whole, .bool each, .string pat, .string wth] 26))) :=
      Lib.hid (by unfold Box; simp [go_sem])
    have HR1 := Lib.hid (HR.out.keep (below_box w (.cells #[.int .i64 nm, .int .i64 n, .slice A l.length c, .int .i64 col, .int .i64 op, .string arg, .bool nt, .bool has, .bool whole, .bool each, .string pat, .string wth] 26)))
    by_cases h1 : nm < 0
    · have q : decide (nm < 0) = true := by simpa using h1
      go_quiet (fail)
      go_wp2_with fail
      go_meet
      refine ⟨?_, HB0.out, HR1.out, below_drewN (below_box _ _) _⟩
      rw [show decide (0 ≤ nm) = false by simpa using h1]; rfl
    · have q : decide (nm < 0) = false := by simpa using h1
      by_cases h2 : 13 < nm
      · have q2 : decide (13 < nm) = true := by simpa using h2
        go_quiet (fail)
        go_wp2_with fail
        go_meet
        refine ⟨?_, HB0.out, HR1.out, below_drewN (below_box _ _) _⟩
        rw [show decide (nm ≤ 13) = false by simpa using h2]; simp
      · have q2 : decide (13 < nm) = false := by simpa using h2
        generalize hW : w.alloc (.cells #[.int .i64 nm, .int .i64 n, .slice A l.length c, .int .i64 col, .int .i64 op, .string arg, .bool nt, .bool has, .bool whole, .bool each, .string pat, .string wth] 26) = W at *
        have hbW : Below w.heap.size w W := by rw [← hW]; exact below_box _ _
        clear hW
        obtain ⟨k0, k1, k2, k3, k4, k5, k6, k7, k8, k9, k10, k11⟩ := HB0.out
        have hRW := HR1.out
        clear HB0 HR1
        simp only at k0 k1 k2 k3 k4 k5 k6 k7 k8 k9 k10 k11
        go_region_held3 (fun w' => w'.cell? ⟨w.heap.size, 0, none⟩ = some (.int .i64 nm) ∧ w'.cell? ⟨w.heap.size, 1, none⟩ = some (.int .i64 n) ∧ w'.cell? ⟨w.heap.size, 2, none⟩ = some (.slice A l.length c) ∧
            w'.cell? ⟨w.heap.size, 3, none⟩ = some (.int .i64 col) ∧ w'.cell? ⟨w.heap.size, 4, none⟩ = some (.int .i64 op) ∧ w'.cell? ⟨w.heap.size, 5, none⟩ = some (.string arg) ∧ w'.cell? ⟨w.heap.size, 6, none⟩ = some (.bool nt) ∧
            w'.cell? ⟨w.heap.size, 7, none⟩ = some (.bool has) ∧ w'.cell? ⟨w.heap.size, 8, none⟩ = some (.bool whole) ∧ w'.cell? ⟨w.heap.size, 9, none⟩ = some (.bool each) ∧ w'.cell? ⟨w.heap.size, 10, none⟩ = some (.string pat) ∧ w'.cell? ⟨w.heap.size, 11, none⟩ = some (.string wth) ∧ RB w' A l ∧ Below w.heap.size w w')
          ((go_split_ands; refine ⟨?_, ?_, ?_, ?_, ?_, ?_, ?_, ?_, ?_, ?_, ?_, ?_, ?_, ?_⟩ <;> first | assumption | exact Below.drew (by assumption) | exact keep_cell hb3 (by assumption) | exact RB.keep (by assumption) hb3 | exact keep_below (by assumption) hb3 (by first | assumption | exact Below.size (by assumption)) | exact keep_cell hb2 (by assumption) | exact RB.keep (by assumption) hb2 | exact keep_below (by assumption) hb2 (by first | assumption | exact Below.size (by assumption))))
          (first | (go_at_call 36; refine (hbare _).mono ?_; rintro e w2 ⟨rfl, hb2⟩) | (go_at_call 15; refine (hsame _ (by first | assumption | exact RB.keep hRW.drew hb2)).mono ?_; rintro e w3 ⟨rfl, hb3⟩))
        go_wp2_with fail
        go_meet
        have hF : Below W.heap.size W w3 := keep_below (undrew hb2) hb3 hb2.size
        exact ⟨by simp [show (0 : Int) ≤ nm by omega, show nm ≤ (13 : Int) by omega], ⟨keep_cell hF k0, keep_cell hF k1, keep_cell hF k2, keep_cell hF k3, keep_cell hF k4, keep_cell hF k5, keep_cell hF k6, keep_cell hF k7, keep_cell hF k8, keep_cell hF k9, keep_cell hF k10, keep_cell hF k11⟩, hRW.keep hF, keep_below hbW hF hbW.size⟩
  case rest =>
    clear hbare hsame
    obtain ⟨rfl, hbox, hRW, hbW⟩ := hcut
    have HBX := Lib.hid hbox; clear hbox
    have HRW := Lib.hid hRW; clear hRW
    have HF : Hid (rFits ⟨nm, n, l, ⟨col, op, arg, nt⟩, has, whole, each, pat, wth⟩ = ((decide (0 ≤ nm) && (decide (nm ≤ 13) && sm)) && (numOk nm n && (bysOk l && (testOk has ⟨col, op, arg, nt⟩ && substOk nm pat wth))))) := Lib.hid (by rw [rFits, HB.out, HSM.out])
    cases hv : (decide (0 ≤ nm) && (decide (nm ≤ 13) && sm))
    · have HV := Lib.hid hv; clear hv
      go_wp2_with fail
      go_ret
      exact ⟨ret_bool (by rw [HF.out, HV.out]; rfl), hbW⟩
    · have HV := Lib.hid hv; clear hv
      go_upto_region 3 with fail
      go_cut [65] (fun s wx => s = .bool (!numOk nm n) ∧ wx = wc)
      case first =>
        obtain ⟨k0, k1, k2, k3, k4, k5, k6, k7, k8, k9, k10, k11⟩ := HBX.out
        simp only at k0 k1
        clear k2 k3 k4 k5 k6 k7 k8 k9 k10 k11
        have hcs : ((nm == 1) = true ∧ (nm == 6) = false ∧ (nm == 5) = false ∧ (nm == 13) = false) ∨ ((nm == 1) = false ∧ (nm == 6) = true ∧ (nm == 5) = false ∧ (nm == 13) = false) ∨ ((nm == 1) = false ∧ (nm == 6) = false ∧ (nm == 5) = true ∧ (nm == 13) = false) ∨
            ((nm == 1) = false ∧ (nm == 6) = false ∧ (nm == 5) = false ∧ (nm == 13) = true) ∨ ((nm == 1) = false ∧ (nm == 6) = false ∧ (nm == 5) = false ∧ (nm == 13) = false) := by
          simp only [beq_eq_false_iff_ne, beq_iff_eq]; omega
        rcases hcs with ⟨e1, e2, e3, e4⟩ | ⟨e1, e2, e3, e4⟩ | ⟨e1, e2, e3, e4⟩ | ⟨e1, e2, e3, e4⟩ | ⟨e1, e2, e3, e4⟩
        all_goals
          go_wp2_with fail
          all_goals
            go_meet
            refine ⟨congrArg Value.bool ?_, rfl⟩
            go_light
            simp only [beq_eq_false_iff_ne, beq_iff_eq] at e1 e2 e3 e4
            simp [numOk, *]
            try first | omega | (rw [Bool.eq_iff_iff]; simp; omega)
      case rest =>
        obtain ⟨rfl, rfl⟩ := hcut
        cases hn : numOk nm n
        · have HN := Lib.hid hn; clear hn
          go_wp2_with fail
          go_ret
          exact ⟨ret_bool (by rw [HF.out, HN.out]; simp), hbW⟩
        · have HN := Lib.hid hn; clear hn
          go_upto_region 5 with fail
          go_cut [81] (fun s wx => s = .bool (!bysOk l) ∧ Box w.heap.size 26 A c ⟨nm, n, l, ⟨col, op, arg, nt⟩, has, whole, each, pat, wth⟩ wx ∧ Below w.heap.size w wx)
          case first =>
            obtain ⟨k0, k1, k2, k3, k4, k5, k6, k7, k8, k9, k10, k11⟩ := HBX.out
            simp only at k2
            clear k0 k1 k3 k4 k5 k6 k7 k8 k9 k10 k11
            have hRR := HRW.out
            have H37 := fun c' => rby_any A c' l wc hl hRR
            clear hRR
            by_cases h4 : 4 < l.length
            · go_wp2_with fail
              go_meet
              exact ⟨congrArg Value.bool (by simp [bysOk]; omega), HBX.out, hbW⟩
            · by_cases h0 : 0 < l.length
              · go_wp2_with (first | (go_at_call 37; refine (H37 _).mono ?_; rintro e w2 ⟨rfl, hb2⟩))
                go_meet
                exact ⟨congrArg Value.bool (by rw [bysOk, show decide (l.length ≤ 4) = true from decide_eq_true (by omega), show decide (4 < (l.length : Int)) = false from decide_eq_false (by omega)]; simp), Box.keep HBX.out hb2, keep_below hbW hb2 hbW.size⟩
              · go_wp2_with fail
                go_meet
                exact ⟨congrArg Value.bool (by rw [show l = [] from List.eq_nil_of_length_eq_zero (by omega)]; rfl), HBX.out, hbW⟩
          case rest =>
            clear hbW
            obtain ⟨rfl, hbox, hbW⟩ := hcut
            clear HBX HRW
            have HBX := Lib.hid hbox; clear hbox
            cases hn : bysOk l
            · have HN := Lib.hid hn; clear hn
              go_wp2_with fail
              go_ret
              exact ⟨ret_bool (by rw [HF.out, HN.out]; simp), hbW⟩
            · have HN := Lib.hid hn; clear hn
              go_upto_region 7 with fail
              go_cut [100] (fun s wx => s = .bool (!testOk has ⟨col, op, arg, nt⟩) ∧ Box w.heap.size 26 A c ⟨nm, n, l, ⟨col, op, arg, nt⟩, has, whole, each, pat, wth⟩ wx ∧ Below w.heap.size w wx)
              case first =>
                obtain ⟨k0, k1, k2, k3, k4, k5, k6, k7, k8, k9, k10, k11⟩ := HBX.out
                simp only at k3 k4 k5 k6 k7
                clear k0 k1 k2 k8 k9 k10 k11
                have H38 := fun W => fright_any ⟨col, op, arg, nt⟩ W hs
                unfold vT at H38
                simp only at H38
                have ntt := neq_t
                have gt := grd_t
                cases has
                · go_wp2_with fail
                  go_meet
                  exact ⟨congrArg Value.bool (by simp [testOk, sameT, zT, toList_L]), HBX.out, hbW⟩
                · go_wp2_with (first | (go_at_call 38; refine (H38 _).mono ?_; rintro e w2 ⟨rfl, hb2⟩; have q7 := keep_cell hb2 k7; have q3 := keep_cell hb2 k3; have q4 := keep_cell hb2 k4; have q5 := keep_cell hb2 k5; have q6 := keep_cell hb2 k6))
                  all_goals
                    go_meet
                    exact ⟨congrArg Value.bool (by go_light; simp_all [testOk]), Box.keep HBX.out hb2, keep_below hbW hb2 hbW.size⟩
              case rest =>
                clear hbW
                obtain ⟨rfl, hbox, hbW⟩ := hcut
                clear HBX
                have HBX := Lib.hid hbox; clear hbox
                cases hn : testOk has ⟨col, op, arg, nt⟩
                · have HN := Lib.hid hn; clear hn
                  go_wp2_with fail
                  go_ret
                  exact ⟨ret_bool (by rw [HF.out, HN.out]; simp), hbW⟩
                · have HN2 := Lib.hid hn; clear hn
                  obtain ⟨k0, k1, k2, k3, k4, k5, k6, k7, k8, k9, k10, k11⟩ := HBX.out
                  simp only at k0 k10 k11
                  clear k1 k2 k3 k4 k5 k6 k7 k8 k9
                  have HX : Hid (rFits ⟨nm, n, l, ⟨col, op, arg, nt⟩, has, whole, each, pat, wth⟩ = substOk nm pat wth) := Lib.hid (by rw [HF.out]; simp_all [Hid])
                  go_wp2_with (first | (go_at_call 39; refine (plain_any _ _ (by omega)).mono ?_; rintro e w2 ⟨rfl, rfl⟩))
                  all_goals
                    go_ret
                    refine ⟨ret_bool ?_, hbW⟩
                    rw [HX.out]
                    go_light
                    clear HX HN HN2 HF HB HSM HR HBX hs hp hq hl
                    simp_all [substOk, toList_L]
end Go.Proofs.YtckmkhcahnijmaaGreatDoor
