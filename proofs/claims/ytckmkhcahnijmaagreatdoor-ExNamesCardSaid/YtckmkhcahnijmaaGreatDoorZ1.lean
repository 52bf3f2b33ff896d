/- Plain laws of chapter 25: fits and texts of the program and of the reference are one; no walk in this text. -/
import Derived.Test.YtckmkhcahnijmaaGreatDoorU2
namespace Go.Proofs.YtckmkhcahnijmaaGreatDoor
open Go.RowKit
set_option linter.unusedVariables false
set_option linter.unusedSimpArgs false

/-! ### Equality -/
theorem ba_iff {a b : ByteArray} : a.data.toList = b.data.toList ↔ a = b := ⟨ba_ext, fun h => by rw [h]⟩
theorem sameT_iff {t u : Tst} : sameT t u = true ↔ t = u := by
  obtain ⟨a, b, c, d⟩ := t; obtain ⟨a', b', c', d'⟩ := u
  simp only [sameT, Bool.and_eq_true, beq_iff_eq, ba_iff, Tst.mk.injEq]
theorem sameL_iff {x y : Ln} : sameL x y = true ↔ x = y := by
  obtain ⟨nm, n, l, ⟨col, op, arg, nt⟩, has, whole, each, pat, wth⟩ := x
  obtain ⟨nm', n', l', ⟨col', op', arg', nt'⟩, has', whole', each', pat', wth'⟩ := y
  simp only [sameL, Bool.and_eq_true, beq_iff_eq, ba_iff, Ln.mk.injEq, Tst.mk.injEq, decide_eq_true_eq]
  constructor
  · rintro ⟨h1, h2, h3, ⟨h4, h5, h6, h7⟩, h8, h9, h10, h11, h12⟩
    exact ⟨h2, h3, h1, ⟨h4, h5, h6, h7⟩, h8, h9, h10, h11, h12⟩
  · rintro ⟨h2, h3, h1, ⟨h4, h5, h6, h7⟩, h8, h9, h10, h11, h12⟩
    exact ⟨h1, h2, h3, ⟨h4, h5, h6, h7⟩, h8, h9, h10, h11, h12⟩

/-! ### The lines that fit -/
def zB : ByteArray := ⟨#[]⟩
def zL : Ln := ⟨0, 0, [], zT, false, false, false, zB, zB⟩
def lW (k : Int) : Ln := ⟨k, 0, [], zT, false, false, false, zB, zB⟩
def lN (k n : Int) : Ln := ⟨k, n, [], zT, false, false, false, zB, zB⟩
def lS (l : List (Int × Bool)) : Ln := ⟨2, 0, l, zT, false, false, false, zB, zB⟩
def lT (k : Int) (t : Tst) : Ln := ⟨k, 0, [], t, true, false, false, zB, zB⟩
def lP (whole each : Bool) (pat wth : ByteArray) : Ln := ⟨7, 0, [], zT, false, whole, each, pat, wth⟩

def pOk (x : Ln) : Bool := decide (0 ≤ x.nm) && (decide (x.nm ≤ 13) && (apartB x && pFits x))

theorem zB_iff {a : ByteArray} : a.data.toList.isEmpty = true ↔ a = zB := by
  rw [List.isEmpty_iff]; exact ⟨fun h => ba_ext (by rw [h]; rfl), fun h => by rw [h]; rfl⟩

theorem zD_iff {a : ByteArray} : a.data = #[] ↔ a = zB := ⟨fun h => by obtain ⟨d⟩ := a; simp at h; subst h; rfl, fun h => by rw [h]; rfl⟩

inductive Fit : Ln → Prop
  | none : Fit zL
  | goto (n : Int) (h1 : 1 ≤ n) (h2 : n ≤ 400) : Fit (lN 1 n)
  | sort (l) (h : bysOk l = true) : Fit (lS l)
  | test (k t) (hk : k = 3 ∨ k = 4) (h : tRight t = true) : Fit (lT k t)
  | bare (k) (hk : k = 3 ∨ k = 4 ∨ 8 ≤ k ∧ k ≤ 12) : Fit (lW k)
  | num (k n : Int) (h : k = 5 ∧ 1 ≤ n ∧ n ≤ 40 ∨ k = 6 ∧ 1 ≤ n ∧ n ≤ 400 ∨ k = 13 ∧ 0 ≤ n ∧ n ≤ 2147483647) : Fit (lN k n)
  | subst (whole each pat wth) (hp : pat ≠ zB) (h1 : noEnd pat.data.toList = true) (h2 : noEnd wth.data.toList = true) : Fit (lP whole each pat wth)

theorem noEnd_zB : noEnd zB.data.toList = true := rfl
theorem tRight_zT : tRight zT = true := rfl
theorem rfits_fit {x : Ln} (h : rFits x = true) : Fit x := by
  simp only [rFits, Bool.and_eq_true, decide_eq_true_eq, sameL_iff] at h
  obtain ⟨⟨h0, h1, hb⟩, hn, hl, ht, hs⟩ := h
  obtain ⟨nm, n, l, t, has, whole, each, pat, wth⟩ := x
  simp only at h0 h1 hn hl ht hs
  simp only [bareL, Ln.mk.injEq, true_and] at hb
  obtain ⟨b1, b2, b3, b4, b5, b6, b7, b8⟩ := hb
  have hc : nm = 0 ∨ nm = 1 ∨ nm = 2 ∨ nm = 3 ∨ nm = 4 ∨ nm = 5 ∨ nm = 6 ∨ nm = 7 ∨ nm = 13 ∨ 8 ≤ nm ∧ nm ≤ 12 := by omega
  have hio : 8 ≤ nm ∧ nm ≤ 12 → isNum nm = false := fun h => by simp [isNum]; omega
  have e7 : substOk nm pat wth = true → nm = 7 → pat ≠ zB ∧ noEnd pat.data.toList = true ∧ noEnd wth.data.toList = true := fun h e => by
    subst e
    simp only [substOk, Bool.or_eq_true, Bool.and_eq_true, Bool.not_eq_true', bne_self_eq_false, Bool.false_eq_true, false_or] at h
    exact ⟨fun q => by rw [zB_iff.mpr q] at h; exact absurd h.1 (by simp), h.2.1, h.2.2⟩
  rcases hc with rfl | rfl | rfl | rfl | rfl | rfl | rfl | rfl | rfl | hc
  · simp [isNum] at b1 b2 b3 b4 b5 b6 b7 b8; subst b1 b2 b3 b4 b5 b6 b7 b8; exact Fit.none
  · simp [isNum] at b1 b2 b3 b4 b5 b6 b7 b8; subst b2 b3 b4 b5 b6 b7 b8; simp [numOk] at hn; exact Fit.goto n hn.1 hn.2
  · simp [isNum] at b1 b2 b3 b4 b5 b6 b7 b8; subst b1 b3 b4 b5 b6 b7 b8; exact Fit.sort l hl
  · simp [isNum] at b1 b2 b3 b4 b5 b6 b7 b8; subst b1 b2 b5 b6 b7 b8
    cases has
    · simp only [testOk, Bool.false_eq_true, if_false, sameT_iff] at ht; subst ht; exact Fit.bare 3 (.inl rfl)
    · exact Fit.test 3 t (.inl rfl) ht
  · simp [isNum] at b1 b2 b3 b4 b5 b6 b7 b8; subst b1 b2 b5 b6 b7 b8
    cases has
    · simp only [testOk, Bool.false_eq_true, if_false, sameT_iff] at ht; subst ht; exact Fit.bare 4 (.inr (.inl rfl))
    · exact Fit.test 4 t (.inr rfl) ht
  · simp [isNum] at b1 b2 b3 b4 b5 b6 b7 b8; subst b2 b3 b4 b5 b6 b7 b8; simp [numOk] at hn; exact Fit.num 5 n (.inl ⟨rfl, hn⟩)
  · simp [isNum] at b1 b2 b3 b4 b5 b6 b7 b8; subst b2 b3 b4 b5 b6 b7 b8; simp [numOk] at hn; exact Fit.num 6 n (.inr (.inl ⟨rfl, hn⟩))
  · simp [isNum] at b1 b2 b3 b4 b5 b6 b7 b8; subst b1 b2 b3 b4; obtain ⟨q1, q2, q3⟩ := e7 hs rfl; exact Fit.subst whole each pat wth q1 q2 q3
  · simp [isNum] at b1 b2 b3 b4 b5 b6 b7 b8; subst b2 b3 b4 b5 b6 b7 b8; simp [numOk] at hn; exact Fit.num 13 n (.inr (.inr ⟨rfl, hn⟩))
  · rw [hio hc] at b1
    rw [if_neg (by omega)] at b2 b3 b4 b5 b6 b7 b8
    simp at b1
    subst b1 b2 b3 b4 b5 b6 b7 b8; exact Fit.bare nm (.inr (.inr hc))

theorem fit_rfits {x : Ln} (h : Fit x) : rFits x = true := by
  cases h with
  | none => rfl
  | goto n h1 h2 => simp [rFits, lN, bareL, isNum, sameL, numOk, bysOk, testOk, sameT, substOk, zT, zB, h1, h2]
  | sort l h => simp [rFits, lS, bareL, isNum, sameL, numOk, h, testOk, sameT, substOk, zT, zB]
  | test k t hk h => rcases hk with rfl | rfl <;> simp [rFits, lT, bareL, isNum, sameL, numOk, bysOk, h, testOk, sameT, substOk, zT, zB]
  | bare k hk =>
    have : k = 3 ∨ k = 4 ∨ k = 8 ∨ k = 9 ∨ k = 10 ∨ k = 11 ∨ k = 12 := by omega
    rcases this with rfl | rfl | rfl | rfl | rfl | rfl | rfl <;> rfl
  | num k n h => rcases h with ⟨rfl, h1, h2⟩ | ⟨rfl, h1, h2⟩ | ⟨rfl, h1, h2⟩ <;> simp [rFits, lN, bareL, isNum, sameL, numOk, bysOk, testOk, sameT, substOk, zT, zB, h1, h2]
  | subst whole each pat wth hp h1 h2 =>
    have : pat.data.toList.isEmpty = false := by rw [Bool.eq_false_iff]; exact fun q => hp (zB_iff.mp q)
    simp only [rFits, lP, bareL, isNum, sameL, numOk, bysOk, testOk, sameT, substOk, zT, h1, h2, this]
    simp

theorem pok_fit {x : Ln} (h : pOk x = true) : Fit x := by
  simp only [pOk, Bool.and_eq_true, decide_eq_true_eq] at h
  obtain ⟨h0, h1, ha, hf⟩ := h
  obtain ⟨nm, n, l, t, has, whole, each, pat, wth⟩ := x
  simp only [apartB, pFits] at h0 h1 ha hf
  have hc : nm = 0 ∨ nm = 1 ∨ nm = 2 ∨ nm = 3 ∨ nm = 4 ∨ nm = 5 ∨ nm = 6 ∨ nm = 7 ∨ nm = 13 ∨ 8 ≤ nm ∧ nm ≤ 12 := by omega
  have hio : 8 ≤ nm ∧ nm ≤ 12 → isNum nm = false := fun h => by simp [isNum]; omega
  have E : ∀ a : ByteArray, a.data.toList.isEmpty = true → a = zB := fun a => zB_iff.mp
  rcases hc with rfl | rfl | rfl | rfl | rfl | rfl | rfl | rfl | rfl | hc
  · simp [isNum, sameT_iff, zD_iff] at ha
    obtain ⟨rfl, rfl, ⟨rfl, rfl⟩, rfl, rfl, rfl, rfl⟩ := ha; exact Fit.none
  · simp [isNum, sameT_iff, zD_iff] at ha
    obtain ⟨rfl, ⟨rfl, rfl⟩, rfl, rfl, rfl, rfl⟩ := ha; simp [isNum, numLo, numHi] at hf; exact Fit.goto n hf.1 hf.2
  · simp [isNum, sameT_iff, zD_iff] at ha
    obtain ⟨rfl, ⟨rfl, rfl⟩, rfl, rfl, rfl, rfl⟩ := ha; simp [isNum] at hf; exact Fit.sort l hf
  · simp [isNum, sameT_iff, zD_iff] at ha
    obtain ⟨rfl, rfl, rfl, rfl, rfl, rfl⟩ := ha; simp [isNum] at hf
    cases has
    · simp only [Bool.false_eq_true, if_false, sameT_iff] at hf; subst hf; exact Fit.bare 3 (.inl rfl)
    · exact Fit.test 3 t (.inl rfl) hf
  · simp [isNum, sameT_iff, zD_iff] at ha
    obtain ⟨rfl, rfl, rfl, rfl, rfl, rfl⟩ := ha; simp [isNum] at hf
    cases has
    · simp only [Bool.false_eq_true, if_false, sameT_iff] at hf; subst hf; exact Fit.bare 4 (.inr (.inl rfl))
    · exact Fit.test 4 t (.inr rfl) hf
  · simp [isNum, sameT_iff, zD_iff] at ha
    obtain ⟨rfl, ⟨rfl, rfl⟩, rfl, rfl, rfl, rfl⟩ := ha; simp [isNum, numLo, numHi] at hf; exact Fit.num 5 n (.inl ⟨rfl, hf⟩)
  · simp [isNum, sameT_iff, zD_iff] at ha
    obtain ⟨rfl, ⟨rfl, rfl⟩, rfl, rfl, rfl, rfl⟩ := ha; simp [isNum, numLo, numHi] at hf; exact Fit.num 6 n (.inr (.inl ⟨rfl, hf⟩))
  · simp [isNum, sameT_iff, zD_iff] at ha
    obtain ⟨rfl, rfl, rfl, rfl⟩ := ha
    simp only [isNum, Bool.and_eq_true, Bool.not_eq_true'] at hf
    simp at hf
    exact Fit.subst whole each pat wth (fun q => by subst q; exact absurd hf.1 (by simp [zB])) hf.2.1 hf.2.2
  · simp [isNum, sameT_iff, zD_iff] at ha
    obtain ⟨rfl, ⟨rfl, rfl⟩, rfl, rfl, rfl, rfl⟩ := ha; simp [isNum, numLo, numHi] at hf; exact Fit.num 13 n (.inr (.inr ⟨rfl, hf⟩))
  · have n2 : ¬ nm = 2 := by omega
    have n3 : ¬ nm = 3 := by omega
    have n4 : ¬ nm = 4 := by omega
    have n7 : ¬ nm = 7 := by omega
    simp [hio hc, n2, n3, n4, n7, sameT_iff, zD_iff] at ha
    obtain ⟨rfl, rfl, ⟨rfl, rfl⟩, rfl, rfl, rfl, rfl⟩ := ha; exact Fit.bare nm (.inr (.inr hc))

theorem fit_pok {x : Ln} (h : Fit x) : pOk x = true := by
  cases h with
  | none => rfl
  | goto n h1 h2 => simp [pOk, lN, apartB, pFits, isNum, sameT, zT, zB, numLo, numHi, h1, h2]
  | sort l h => simp [pOk, lS, apartB, pFits, isNum, sameT, zT, zB, h]
  | test k t hk h => rcases hk with rfl | rfl <;> simp [pOk, lT, apartB, pFits, isNum, sameT, zT, zB, h]
  | bare k hk =>
    have : k = 3 ∨ k = 4 ∨ k = 8 ∨ k = 9 ∨ k = 10 ∨ k = 11 ∨ k = 12 := by omega
    rcases this with rfl | rfl | rfl | rfl | rfl | rfl | rfl <;> rfl
  | num k n h => rcases h with ⟨rfl, h1, h2⟩ | ⟨rfl, h1, h2⟩ | ⟨rfl, h1, h2⟩ <;> simp [pOk, lN, apartB, pFits, isNum, sameT, zT, zB, numLo, numHi, h1, h2]
  | subst whole each pat wth hp h1 h2 =>
    have : pat.data.toList.isEmpty = false := by rw [Bool.eq_false_iff]; exact fun q => hp (zB_iff.mp q)
    simp only [pOk, lP, apartB, pFits, isNum, sameT, zT, h1, h2, this]
    simp
theorem pok_eq (x : Ln) : pOk x = rFits x := by
  rw [Bool.eq_iff_iff]; exact ⟨fun h => fit_rfits (pok_fit h), fun h => fit_pok (rfits_fit h)⟩
theorem ptext_eq {x : Ln} (h : Fit x) : pText x = rText x := by
  cases h with
  | none => rfl
  | goto n h1 h2 => simp [pText, rText, lN]
  | sort l h => simp [pText, rText, lS]
  | test k t hk h => rcases hk with rfl | rfl <;> simp [pText, rText, lT, keysB]
  | bare k hk =>
    have : k = 3 ∨ k = 4 ∨ k = 8 ∨ k = 9 ∨ k = 10 ∨ k = 11 ∨ k = 12 := by omega
    rcases this with rfl | rfl | rfl | rfl | rfl | rfl | rfl <;> rfl
  | num k n h => rcases h with ⟨rfl, h1, h2⟩ | ⟨rfl, h1, h2⟩ | ⟨rfl, h1, h2⟩ <;> simp [pText, rText, lN, keysB]
  | subst whole each pat wth hp h1 h2 => simp [pText, rText, lP]
end Go.Proofs.YtckmkhcahnijmaaGreatDoor
