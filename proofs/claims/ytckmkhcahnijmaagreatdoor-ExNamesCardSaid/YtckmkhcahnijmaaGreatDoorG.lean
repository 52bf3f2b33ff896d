/- The walks of the reference: damierref16.Right, damierref25.bare. -/
import Derived.Test.YtckmkhcahnijmaaGreatDoorF
namespace Go.Proofs.YtckmkhcahnijmaaGreatDoor
open Go.RowKit
set_option linter.unusedVariables false
set_option linter.unusedSimpArgs false

/-- A slice of keys to sort by reads as a list. -/
def RB (w : World) (A : Option Addr) (l : List (Int × Bool)) : Prop :=
  ∀ j (h : j < l.length), ∃ b off, A = some ⟨b, off, none⟩ ∧ w.cell? ⟨b, off + j * 2, none⟩ = some (.int .i64 l[j].1) ∧ w.cell? ⟨b, off + j * 2 + 1, none⟩ = some (.bool l[j].2)
theorem RB.keep {w w1 : World} {A l} (h : RB w A l) (hb : Below w.heap.size w w1) : RB w1 A l := fun j hj => by
  obtain ⟨b, off, e, h1, h2⟩ := h j hj
  exact ⟨b, off, e, keep_cell hb h1, keep_cell hb h2⟩
theorem RB.nil (w : World) (A : Option Addr) : RB w A [] := fun j h => by simp at h
def keyOk (b : Int × Bool) : Bool := decide (0 ≤ b.1) && decide (b.1 ≤ 39)

set_option maxHeartbeats 1000000 in
theorem rby_any (A : Option Addr) (c : Nat) (l : List (Int × Bool)) (w : World) (hl : l.length ≤ 65536) (hr : RB w A l) :
    Calls Tryz.prog 37 #[.slice A l.length c] w fun e w' => e = .returned (.bool (l.all keyOk && decide (0 < l.length))) ∧ Below w.heap.size w w' := by
  have HR := Lib.hid hr; clear hr
  go_enter Tryz.func37, Tryz.ntmps37
  go_wp2
  go_loopw [7] (fun i wr => ∃ k : Nat, k ≤ l.length ∧ i = .int .i64 k ∧ l.all keyOk = (l.drop k).all keyOk ∧ Below w.heap.size w wr) (fun i _ => l.length - (intOf i).toNat)
  case atStart => exact ⟨0, by omega, rfl, by simp, Below.refl _ _⟩
  case round =>
    obtain ⟨k, hk, rfl, hq, hb⟩ := hrel
    have HQ := Lib.hid hq; clear hq
    by_cases hlt : k < l.length
    · obtain ⟨b, off, HA, h1, h2⟩ := (HR.out.keep hb) k hlt
      subst HA
      have HD := Lib.hid (List.drop_eq_getElem_cons hlt)
      by_cases g1 : l[k].1 < 0
      · have gk : keyOk l[k] = false := by simp [keyOk]; omega
        have GK := Lib.hid gk; clear gk
        go_wp2
        go_ret
        exact ⟨ret_bool (by rw [HQ.out, HD.out, List.all_cons, GK.out]; rfl), hb.alloc hb.size _⟩
      · by_cases g2 : 39 < l[k].1
        · have gk : keyOk l[k] = false := by simp [keyOk]; omega
          have GK := Lib.hid gk; clear gk
          go_wp2
          go_ret
          exact ⟨ret_bool (by rw [HQ.out, HD.out, List.all_cons, GK.out]; rfl), hb.alloc hb.size _⟩
        · have gk : keyOk l[k] = true := by simp [keyOk]; omega
          have GK := Lib.hid gk; clear gk
          go_wp2
          go_roundw
          case rel => exact ⟨k + 1, by omega, by go_num, by rw [HQ.out, HD.out, List.all_cons, GK.out]; rfl, hb.alloc hb.size _⟩
          case measure => simp [intOf]; omega
    · have HK := Lib.hid (show l.drop k = [] from List.drop_of_length_le (by omega))
      go_wp2
      go_ret
      exact ⟨ret_bool (by rw [HQ.out, HK.out]; simp), hb⟩

def zT : Tst := ⟨0, 0, ⟨#[]⟩, false⟩
def isNum (n : Int) : Bool := n == 1 || n == 5 || n == 6 || n == 13
def bareL (x : Ln) : Ln :=
  { nm := x.nm, n := if isNum x.nm then x.n else 0, bys := if x.nm = 2 then x.bys else [], t := if x.nm = 3 ∨ x.nm = 4 then x.t else zT, has := if x.nm = 3 ∨ x.nm = 4 then x.has else false,
    whole := if x.nm = 7 then x.whole else false, each := if x.nm = 7 then x.each else false, pat := if x.nm = 7 then x.pat else ⟨#[]⟩, wth := if x.nm = 7 then x.wth else ⟨#[]⟩ }
set_option maxHeartbeats 4000000 in
theorem bare_any (A : Option Addr) (c : Nat) (x : Ln) (w : World) :
    Calls Tryz.prog 36 #[vL A c x] w fun e w' => e = .returned (vL (if x.nm = 2 then A else none) (if x.nm = 2 then c else 0) (bareL x)) ∧ Below w.heap.size w w' := by
  obtain ⟨nm, n, bys, ⟨col, op, arg, nt⟩, has, whole, each, pat, wth⟩ := x
  simp only
  generalize hv : vL (if nm = 2 then A else none) (if nm = 2 then c else 0) (bareL ⟨nm, n, bys, ⟨col, op, arg, nt⟩, has, whole, each, pat, wth⟩) = v
  have HV := Lib.hid hv; clear hv
  unfold vL
  simp only
  have hc : nm = 1 ∨ nm = 2 ∨ nm = 3 ∨ nm = 4 ∨ nm = 5 ∨ nm = 6 ∨ nm = 7 ∨ nm = 13 ∨ (nm == 1) = false ∧ (nm == 2) = false ∧ (nm == 3) = false ∧ (nm == 4) = false ∧ (nm == 5) = false ∧ (nm == 6) = false ∧ (nm == 7) = false ∧ (nm == 13) = false := by
    simp only [beq_eq_false_iff_ne]; omega
  rcases hc with rfl | rfl | rfl | rfl | rfl | rfl | rfl | rfl | ⟨q1, q2, q3, q4, q5, q6, q7, q8⟩
  all_goals
    go_enter Tryz.func36, Tryz.ntmps36
    go_wp2
    refine bodyPost_ret (v := v) ?_ rfl ⟨rfl, ?_⟩
    · rw [← HV.out]
      simp [results, Tryz.results36, go_sem, vL, bareL, isNum, zT]
      try simp_all
    · exact (((Below.refl _ _).alloc (Nat.le_refl _) _).alloc (by simp) _).alloc (by simp; omega) _
end Go.Proofs.YtckmkhcahnijmaaGreatDoor
