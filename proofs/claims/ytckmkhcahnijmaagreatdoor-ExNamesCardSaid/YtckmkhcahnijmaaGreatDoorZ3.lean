/- Plain laws of chapter 25: a line is read as it was written, by the program and by the reference; both answer alike. -/
import Derived.Test.YtckmkhcahnijmaaGreatDoorZ2
namespace Go.Proofs.YtckmkhcahnijmaaGreatDoor
open Go.RowKit
set_option linter.unusedVariables false
set_option linter.unusedSimpArgs false

def tailB (x : Ln) : List UInt8 := keysB x.bys ++ ((if x.has then [32] ++ tPrint x.t else []) ++ (if x.nm = 5 ∨ x.nm = 6 ∨ x.nm = 13 then [32] ++ numB x.n.toNat else []))
def isWord (k : Nat) : Prop := k = 2 ∨ k = 3 ∨ k = 4 ∨ k = 5 ∨ k = 6 ∨ k = 8 ∨ k = 9 ∨ k = 10 ∨ k = 11 ∨ k = 12 ∨ k = 13
theorem rText_word {x : Ln} {k : Nat} (h : x.nm = k) (hk : isWord k) : rText x = wd k ++ tailB x := by
  unfold isWord at hk
  rw [rText, if_neg (by omega), if_neg (by omega), h, Int.toNat_natCast, tailB, h]
  simp
theorem tPrint_right {t : Tst} (h : tRight t = true) : tPrint t = tText t := by rw [tPrint, h]; rfl

/-- What stands behind a name, as the program reads it. -/
def pArg (k : Nat) (rest : List UInt8) : Ln :=
  if k = 2 then lS (keysP rest) else if k = 3 ∨ k = 4 then (if Lib.hasPrefix rest [32] then lT k ((ptG (Lib.trimPrefix rest [32])).getD zT) else lW k)
  else lN k (valD 2147483647 0 (Lib.trimPrefix rest [32]))
theorem trim_32 (l : List UInt8) : Lib.trimPrefix (32 :: l) [32] = l := by simp [Lib.trimPrefix, Lib.hasPrefix]
theorem has_32 (l : List UInt8) : Lib.hasPrefix (32 :: l) [32] = true := by simp [Lib.hasPrefix]
theorem bysOk_all {l : List (Int × Bool)} (h : bysOk l = true) : l.all keyOk = true ∧ l.length ≤ 4 := by
  simp only [bysOk, Bool.and_eq_true, decide_eq_true_eq] at h; exact ⟨h.2, h.1⟩
theorem pArg_tail {x : Ln} (h : Fit x) {k : Nat} (hx : x.nm = k) (hk : isWord k) : pArg k (tailB x) = x := by
  unfold isWord at hk
  cases h with
  | none => simp only [zL] at hx; omega
  | goto n h1 h2 => simp only [lN] at hx; omega
  | sort l h =>
    simp only [lS] at hx
    obtain rfl : k = 2 := by omega
    have e : tailB (lS l) = keysB l := by simp [tailB, lS]
    rw [e, pArg, if_pos rfl, keysP_keysB l (bysOk_all h).1]
  | test j t hj h =>
    simp only [lT] at hx
    have e : tailB (lT j t) = 32 :: tText t := by
      rw [← tPrint_right h]
      rcases hj with rfl | rfl <;> simp [tailB, lT, keysB]
    rw [e, pArg, if_neg (by omega), if_pos (by omega), has_32, if_pos rfl, trim_32, ptG_text h, ← hx]
    rfl
  | bare j hj =>
    simp only [lW] at hx
    have n5 : ¬ (j = 5 ∨ j = 6 ∨ j = 13) := by omega
    have e : tailB (lW j) = [] := by simp [tailB, lW, keysB, n5]
    rw [e, pArg, if_neg (by omega), ← hx]
    by_cases h34 : k = 3 ∨ k = 4
    · rw [if_pos h34]; rfl
    · rw [if_neg h34]; rfl
  | num j n h =>
    simp only [lN] at hx
    have n5 : j = 5 ∨ j = 6 ∨ j = 13 := by omega
    have e : tailB (lN j n) = 32 :: numB n.toNat := by simp [tailB, lN, keysB, n5]
    have hv := valD_num 2147483647 n.toNat [] (by omega) (.inl rfl)
    rw [List.append_nil] at hv
    rw [e, pArg, if_neg (by omega), if_neg (by omega), trim_32, hv, ← hx]
    congr 1
    omega
  | subst whole each pat wth hp h1 h2 => simp only [lP] at hx; omega

/-! ### Names -/
def namedG (s : List UInt8) : List (List UInt8) → Nat → List Nat → List Nat
  | [], _, acc => acc
  | w :: ws, k, acc => if w = s ∧ s ≠ [] then [k] else if w ≠ [] ∧ s ≠ [] ∧ s.isPrefixOf w = true then namedG s ws (k + 1) (acc ++ [k]) else namedG s ws (k + 1) acc
def pNamed (s : List UInt8) : List Nat := namedG s wordsL 0 []
def fullOf : List Nat → List UInt8 × Bool
  | [k] => (wd k, true)
  | _ => ([], false)
theorem fullG_named (s : List UInt8) : ∀ (ws : List (List UInt8)) (k : Nat) (f : List UInt8) (acc : List Nat), (∀ i (h : i < ws.length), ws[i] = wd (k + i)) → (∀ j, acc = [j] → f = wd j) → fullG s ws f acc.length = fullOf (namedG s ws k acc)
  | [], k, f, acc, _, hf => by
    rw [fullG, namedG]
    match acc, hf with
    | [], _ => rfl
    | [j], hf => rw [hf j rfl]; rfl
    | _ :: _ :: _, _ => simp [fullOf]
  | w :: ws, k, f, acc, hw, hf => by
    have hk : w = wd k := by have := hw 0 (by simp); simpa using this
    have hw' : ∀ i (h : i < ws.length), ws[i] = wd (k + 1 + i) := fun i h => by
      have := hw (i + 1) (by simp; omega)
      rw [List.getElem_cons_succ] at this
      rw [this]; congr 1; omega
    rw [fullG, namedG]
    by_cases h1 : w = s ∧ s ≠ []
    · rw [if_pos ⟨by rw [h1.1]; exact h1.2, h1.1.symm⟩, if_pos h1, hk]; rfl
    · rw [if_neg (fun q => h1 ⟨q.2.symm, by rw [q.2]; exact q.1⟩), if_neg h1]
      by_cases h2 : w ≠ [] ∧ s ≠ [] ∧ s.isPrefixOf w = true
      · rw [if_pos h2, if_pos h2]
        have := fullG_named s ws (k + 1) w (acc ++ [k]) hw' (fun j hj => by
          have : acc = [] ∧ k = j := by
            cases acc with
            | nil => simpa using hj
            | cons a l => simp at hj
          rw [hk, this.2])
        rw [List.length_append, List.length_singleton] at this
        exact this
      · rw [if_neg h2, if_neg h2]
        exact fullG_named s ws (k + 1) f acc hw' hf
theorem wd_get (i : Nat) (h : i < wordsL.length) : wordsL[i] = wd i := by
  simp [wd, List.getD_eq_getElem?_getD, List.getElem?_eq_getElem h]
theorem rFull_named (s : List UInt8) : rFull s = fullOf (pNamed s) :=
  fullG_named s wordsL 0 [] [] (fun i h => by rw [wd_get i h, Nat.zero_add]) (fun j h => by cases h)
theorem namedG_range (s : List UInt8) : ∀ (ws : List (List UInt8)) (k : Nat) (acc : List Nat) (P : Nat → Prop), (∀ j ∈ acc, P j) → (∀ i (h : i < ws.length), ws[i] ≠ [] → s ≠ [] → s.isPrefixOf ws[i] = true → P (k + i)) → ∀ j ∈ namedG s ws k acc, P j
  | [], k, acc, P, h, _ => by rw [namedG]; exact h
  | w :: ws, k, acc, P, h, hw => by
    have hw' : ∀ i (h : i < ws.length), ws[i] ≠ [] → s ≠ [] → s.isPrefixOf ws[i] = true → P (k + 1 + i) := fun i h a b c => by
      have := hw (i + 1) (by simp; omega) a b c
      rwa [show k + (i + 1) = k + 1 + i by omega] at this
    have h0 := hw 0 (by simp)
    rw [namedG]
    split
    · rename_i h1
      intro j hj
      rw [List.mem_singleton] at hj
      subst hj
      exact h0 (by rw [List.getElem_cons_zero, h1.1]; exact h1.2) h1.2 (by rw [List.getElem_cons_zero, h1.1]; simp)
    · split
      · rename_i h2
        refine namedG_range s ws (k + 1) (acc ++ [k]) P (fun j hj => ?_) hw'
        rw [List.mem_append, List.mem_singleton] at hj
        rcases hj with hj | hj
        · exact h j hj
        · subst hj; exact h0 h2.1 h2.2.1 h2.2.2
      · exact namedG_range s ws (k + 1) acc P h hw'
theorem word_of {k : Nat} (h : k < 14) (hw : wd k ≠ []) : isWord k := by
  unfold isWord
  match k, h with
  | 0, _ => exact absurd rfl hw
  | 1, _ => exact absurd rfl hw
  | 7, _ => exact absurd rfl hw
  | 2, _ => omega | 3, _ => omega | 4, _ => omega | 5, _ => omega | 6, _ => omega | 8, _ => omega
  | 9, _ => omega | 10, _ => omega | 11, _ => omega | 12, _ => omega | 13, _ => omega
theorem named_word {s : List UInt8} {k : Nat} (h : pNamed s = [k]) : isWord k ∧ s ≠ [] ∧ s.isPrefixOf (wd k) = true := by
  have := namedG_range s wordsL 0 [] (fun j => isWord j ∧ s ≠ [] ∧ s.isPrefixOf (wd j) = true) (fun j h => by cases h) (fun i h a b c => by
    rw [wd_get i h] at a c
    rw [Nat.zero_add]
    exact ⟨word_of (by simpa [wordsL] using h) a, b, c⟩) k (by rw [show namedG s wordsL 0 [] = [k] from h]; simp)
  exact this
theorem named_wd {k : Nat} (h : isWord k) : pNamed (wd k) = [k] := by
  unfold isWord at h
  rcases h with rfl | rfl | rfl | rfl | rfl | rfl | rfl | rfl | rfl | rfl | rfl <;> decide
theorem named_nil : pNamed [] = [] := by decide

/-! ### Reading, as the program does -/
def firstDig : List UInt8 → Bool
  | [] => false
  | c :: _ => dig c
def isSub (s : List UInt8) : Bool := Lib.hasPrefix (Lib.trimPrefix s [37]) [115, 47]
def pSub (rest : List UInt8) (whole : Bool) : Ln :=
  match partsG rest [] [] with
  | some [a, b, c] => lP whole (c == [103]) (bs a) (bs b)
  | _ => lW 7
def pRead (s : List UInt8) : Ln × List UInt8 × Bool :=
  if isSub s then (pSub (Lib.trimPrefix (Lib.trimPrefix s [37]) [115, 47]) (Lib.hasPrefix s [37]), s, true)
  else if firstDig s then (lN 1 (valD 2147483647 0 s), s, true)
  else match pNamed (s.take (hd s)) with
    | [k] => (pArg k (s.drop (hd s)), wd k ++ s.drop (hd s), true)
    | _ => (zL, s, s.isEmpty)

theorem wd_notsub {k : Nat} (h : isWord k) (t : List UInt8) : isSub (wd k ++ t) = false ∧ firstDig (wd k ++ t) = false ∧ cnt dig (wd k ++ t) = 0 ∧ wd k ++ t ≠ [] := by
  unfold isWord at h
  rcases h with rfl | rfl | rfl | rfl | rfl | rfl | rfl | rfl | rfl | rfl | rfl <;> exact ⟨rfl, rfl, rfl, by simp [wd, wordsL]⟩
theorem num_notsub (n : Nat) : isSub (numB n) = false ∧ firstDig (numB n) = true ∧ 0 < cnt dig (numB n) ∧ numB n ≠ [] := by
  obtain ⟨c, l, e, hd⟩ := numB_cons n
  have h1 : ¬ (37 = c) := by rintro rfl; simp [dig] at hd
  have h2 : ¬ (115 = c) := by rintro rfl; simp [dig] at hd
  rw [e]
  refine ⟨?_, hd, by rw [cnt_step hd]; omega, by simp⟩
  unfold isSub Lib.trimPrefix Lib.hasPrefix
  simp [List.isPrefixOf, h1, h2]
theorem sub_issub (whole each : Bool) (pat wth : ByteArray) : isSub (subB (lP whole each pat wth)) = true ∧ firstDig (subB (lP whole each pat wth)) = false ∧ cnt dig (subB (lP whole each pat wth)) = 0 ∧
    Lib.trimPrefix (Lib.trimPrefix (subB (lP whole each pat wth)) [37]) [115, 47] = subR each pat wth ∧ Lib.hasPrefix (subB (lP whole each pat wth)) [37] = whole := by
  rw [subB_eq]
  cases whole <;> exact ⟨rfl, rfl, rfl, rfl, rfl⟩
theorem tail_stop (x : Ln) : tailB x = [] ∨ ∃ t, tailB x = 32 :: t := by
  unfold tailB
  cases hb : x.bys with
  | cons b l => right; rw [keysB_cons']; exact ⟨_, rfl⟩
  | nil =>
    cases hh : x.has with
    | true => right; exact ⟨_, rfl⟩
    | false =>
      by_cases h5 : x.nm = 5 ∨ x.nm = 6 ∨ x.nm = 13
      · right; rw [if_pos h5]; exact ⟨_, rfl⟩
      · left; rw [if_neg h5]; rfl
theorem wd_plain (k : Nat) : (wd k).all (fun c => c != 32) = true := by
  rcases Nat.lt_or_ge k 14 with h | h
  · match k, h with
    | 0, _ => rfl | 1, _ => rfl | 2, _ => rfl | 3, _ => rfl | 4, _ => rfl | 5, _ => rfl | 6, _ => rfl
    | 7, _ => rfl | 8, _ => rfl | 9, _ => rfl | 10, _ => rfl | 11, _ => rfl | 12, _ => rfl | 13, _ => rfl
  · rw [wd, List.getD_eq_getElem?_getD, List.getElem?_eq_none (by simpa [wordsL] using h)]; rfl
def Tail (t : List UInt8) : Prop := t = [] ∨ ∃ r, t = 32 :: r
theorem hd_tail {t : List UInt8} (h : Tail t) : hd t = 0 := by
  rcases h with rfl | ⟨r, rfl⟩ <;> rfl
theorem hd_word {p t : List UInt8} (hp : p.all (fun c => c != 32) = true) (h : Tail t) : hd (p ++ t) = p.length := by rw [hd_app _ _ hp, hd_tail h, Nat.add_zero]
theorem hd_drop : ∀ s : List UInt8, Tail (s.drop (hd s))
  | [] => .inl rfl
  | c :: s => by
    by_cases h : c = 32
    · subst h; exact .inr ⟨s, rfl⟩
    · rw [hd_go (by simpa using h)]; exact hd_drop s
theorem hd_take (s : List UInt8) : (s.take (hd s)).all (fun c => c != 32) = true := by
  induction s with
  | nil => rfl
  | cons c s ih =>
    by_cases h : c = 32
    · subst h; rfl
    · rw [hd_go (by simpa using h), List.take_succ_cons, List.all_cons, ih]; simpa using h
theorem hd_word_take {p t : List UInt8} (hp : p.all (fun c => c != 32) = true) (h : Tail t) : (p ++ t).take (hd (p ++ t)) = p ∧ (p ++ t).drop (hd (p ++ t)) = t := by
  rw [hd_word hp h]; exact ⟨List.take_left, List.drop_left⟩
theorem wd_inj {j k : Nat} (hj : isWord j) (hk : isWord k) (h : wd j = wd k) : j = k := by
  have a := named_wd hj
  rw [h, named_wd hk] at a
  simpa using a.symm
theorem word_parts {j k : Nat} {t r : List UInt8} (hj : isWord j) (hk : isWord k) (ht : Tail t) (hr : Tail r) (h : wd j ++ t = wd k ++ r) : j = k ∧ t = r := by
  have a := hd_word_take (wd_plain j) ht
  have b := hd_word_take (wd_plain k) hr
  rw [h] at a
  exact ⟨wd_inj hj hk (a.1.symm.trans b.1), a.2.symm.trans b.2⟩

/-- What a line that fits may be: its text tells. -/
theorem fit_text {x : Ln} (h : Fit x) : (x = zL ∧ rText x = []) ∨ (∃ n : Int, 1 ≤ n ∧ n ≤ 400 ∧ x = lN 1 n ∧ rText x = numB n.toNat) ∨ (∃ k : Nat, isWord k ∧ x.nm = k ∧ rText x = wd k ++ tailB x) ∨
    (∃ whole each pat wth, x = lP whole each pat wth ∧ rText x = subB (lP whole each pat wth)) := by
  cases h with
  | none => exact .inl ⟨rfl, rfl⟩
  | goto n h1 h2 => exact .inr (.inl ⟨n, h1, h2, rfl, rfl⟩)
  | sort l h => exact .inr (.inr (.inl ⟨2, .inl rfl, rfl, rText_word (k := 2) rfl (.inl rfl)⟩))
  | test k t hk h =>
    obtain ⟨j, rfl⟩ := Int.eq_ofNat_of_zero_le (show 0 ≤ k by omega)
    have hw : isWord j := by unfold isWord; omega
    exact .inr (.inr (.inl ⟨j, hw, rfl, rText_word (k := j) rfl hw⟩))
  | bare k hk =>
    obtain ⟨j, rfl⟩ := Int.eq_ofNat_of_zero_le (show 0 ≤ k by omega)
    have hw : isWord j := by unfold isWord; omega
    exact .inr (.inr (.inl ⟨j, hw, rfl, rText_word (k := j) rfl hw⟩))
  | num k n h =>
    obtain ⟨j, rfl⟩ := Int.eq_ofNat_of_zero_le (show 0 ≤ k by omega)
    have hw : isWord j := by unfold isWord; omega
    exact .inr (.inr (.inl ⟨j, hw, rfl, rText_word (k := j) rfl hw⟩))
  | subst whole each pat wth hp h1 h2 => exact .inr (.inr (.inr ⟨whole, each, pat, wth, rfl, rfl⟩))

theorem pSub_subR (whole each : Bool) (pat wth : ByteArray) : pSub (subR each pat wth) whole = lP whole each pat wth := by
  rw [pSub, parts_subR]
  show lP whole (gB each == [103]) (bs pat.data.toList) (bs wth.data.toList) = _
  rw [bs_of, bs_of]
  cases each <;> rfl

theorem pRead_fit {s : List UInt8} (hok : (pRead s).2.2 = true) {y : Ln} (hy : Fit y) (h : rText y = (pRead s).2.1) : (pRead s).1 = y := by
  unfold pRead at *
  by_cases h1 : isSub s = true
  · rw [if_pos h1] at h ⊢
    simp only at h ⊢
    rcases fit_text hy with ⟨rfl, e⟩ | ⟨n, _, _, rfl, e⟩ | ⟨k, hk, _, e⟩ | ⟨whole, each, pat, wth, rfl, e⟩
    · rw [← h, e] at h1; cases h1
    · rw [← h, e, (num_notsub _).1] at h1; cases h1
    · rw [← h, e, (wd_notsub hk _).1] at h1; cases h1
    · rw [← h, e, (sub_issub ..).2.2.2.1, (sub_issub ..).2.2.2.2, pSub_subR]
  · rw [if_neg h1] at h hok ⊢
    by_cases h2 : firstDig s = true
    · rw [if_pos h2] at h ⊢
      simp only at h ⊢
      rcases fit_text hy with ⟨rfl, e⟩ | ⟨n, n1, n2, rfl, e⟩ | ⟨k, hk, _, e⟩ | ⟨whole, each, pat, wth, rfl, e⟩
      · rw [← h, e] at h2; cases h2
      · have hv := valD_num 2147483647 n.toNat [] (by omega) (.inl rfl)
        rw [List.append_nil] at hv
        rw [← h, e, hv]
        congr 1; omega
      · rw [← h, e, (wd_notsub hk _).2.1] at h2; cases h2
      · rw [← h, e, (sub_issub ..).2.1] at h2; cases h2
    · rw [if_neg h2] at h hok ⊢
      split at h
      · rename_i k hk
        rw [hk] at hok
        simp only at h hok ⊢
        obtain ⟨hw, _, _⟩ := named_word hk
        rcases fit_text hy with ⟨rfl, e⟩ | ⟨n, n1, n2, rfl, e⟩ | ⟨j, hj, hx, e⟩ | ⟨whole, each, pat, wth, rfl, e⟩
        · rw [e] at h; exact absurd h.symm (wd_notsub hw _).2.2.2
        · have := (num_notsub n.toNat).2.1
          rw [← e, h, (wd_notsub hw _).2.1] at this; cases this
        · rw [e] at h
          obtain ⟨rfl, ht⟩ := word_parts hj hw (tail_stop y) (hd_drop s) h
          rw [← ht]; exact pArg_tail hy hx hj
        · have := (sub_issub whole each pat wth).1
          rw [← e, h, (wd_notsub hw _).1] at this; cases this
      · rename_i hn
        split at hok
        · rename_i k hk; exact absurd hk (hn k)
        · simp only at h hok
          have hs : s = [] := List.isEmpty_iff.mp hok
          subst hs
          rcases fit_text hy with ⟨rfl, e⟩ | ⟨n, n1, n2, rfl, e⟩ | ⟨j, hj, hx, e⟩ | ⟨whole, each, pat, wth, rfl, e⟩
          · rfl
          · exact absurd (e.symm.trans h) (num_notsub _).2.2.2
          · exact absurd (e.symm.trans h) (wd_notsub hj _).2.2.2
          · have := (sub_issub whole each pat wth).1
            rw [← e, h] at this; cases this
/-- Where the program reads no line there is none. -/
theorem pRead_none {s : List UInt8} (hok : (pRead s).2.2 = false) {y : Ln} (hy : Fit y) : rText y ≠ s := by
  intro h
  unfold pRead at hok
  rcases fit_text hy with ⟨rfl, e⟩ | ⟨n, n1, n2, rfl, e⟩ | ⟨j, hj, hx, e⟩ | ⟨whole, each, pat, wth, rfl, e⟩
  · rw [e] at h; subst h; cases hok
  · have := num_notsub n.toNat
    rw [← e, h] at this
    rw [this.1, this.2.1] at hok
    simp at hok
  · have h1 := wd_notsub hj (tailB y)
    have h2 := hd_word_take (wd_plain j) (tail_stop y)
    rw [← e, h] at h1 h2
    rw [h1.1, h1.2.1, h2.1, named_wd hj] at hok
    simp at hok
  · have := (sub_issub whole each pat wth).1
    rw [← e, h] at this
    rw [this] at hok
    simp at hok
theorem pRead_range (s : List UInt8) : 0 ≤ (pRead s).1.nm ∧ (pRead s).1.nm ≤ 13 := by
  unfold pRead
  split
  · unfold pSub; split <;> simp [lP, lW]
  · split
    · simp [lN]
    · split
      · rename_i k hk
        obtain ⟨hw, _, _⟩ := named_word hk
        unfold isWord at hw
        have : (pArg k (s.drop (hd s))).nm = k := by
          unfold pArg
          split
          · rename_i e; subst e; rfl
          · split
            · split <;> rfl
            · rfl
        simp only [this]
        omega
      · simp [zL]

def pParse (s : List UInt8) : Ln × Int :=
  if 100 < s.length then (zL, 7) else if (pRead s).2.2 then (if pOk (pRead s).1 && pText (pRead s).1 == (pRead s).2.1 then ((pRead s).1, 0) else (zL, 3)) else (zL, 11)
theorem pParse_yes {s : List UInt8} (hl : s.length ≤ 100) (hok : (pRead s).2.2 = true) {y : Ln} (hy : Fit y) (h : rText y = (pRead s).2.1) : pParse s = (y, 0) := by
  have e := pRead_fit hok hy h
  rw [pParse, if_neg (by omega), if_pos hok, e, fit_pok hy, ptext_eq hy, h]
  simp
theorem pParse_no {s : List UInt8} (hl : s.length ≤ 100) (hok : (pRead s).2.2 = true) (hn : ∀ y, Fit y → rText y ≠ (pRead s).2.1) : pParse s = (zL, 3) := by
  rw [pParse, if_neg (by omega), if_pos hok, if_neg]
  intro q
  simp only [Bool.and_eq_true, beq_iff_eq] at q
  have hf := pok_fit q.1
  exact hn _ hf (by rw [← ptext_eq hf]; exact q.2)

/-! ### Reading, as the reference does -/
open Classical in
noncomputable def ftG (s : List UInt8) : Tst := if h : ∃ u, tRight u = true ∧ tText u = s then h.choose else zT
theorem ftG_text {t : Tst} (h : tRight t = true) : ftG (tText t) = t := by
  have hx : ∃ u, tRight u = true ∧ tText u = tText t := ⟨t, h, rfl⟩
  rw [ftG, dif_pos hx]
  exact tText_inj hx.choose_spec.1 h hx.choose_spec.2
def wordIx (h : List UInt8) : Nat := (List.range 14).foldl (fun a i => if wd i = h ∧ h ≠ [] then i else a) 0
noncomputable def rArg (m : Nat) (rest : List UInt8) : Ln :=
  if m = 3 ∨ m = 4 then lT m (ftG rest) else if m = 5 ∨ m = 6 ∨ m = 13 then lN m (valD 2147483647 0 rest) else if m = 2 then lS (keysR 5 rest) else lW m
noncomputable def rGuess (s : List UInt8) : Ln :=
  if ([37, 115, 47] : List UInt8).isPrefixOf s = true ∨ ([115, 47] : List UInt8).isPrefixOf s = true then
    (match cutsG (s.drop (if ([37, 115, 47] : List UInt8).isPrefixOf s then 3 else 2)) [] [] with
     | a :: b :: _ => lP (([37, 115, 47] : List UInt8).isPrefixOf s) (s.getLast? == some 103) (bs a) (bs b)
     | _ => zL)
  else if 0 < cnt dig s then lN 1 (valD 1000000 0 s)
  else if hd s = s.length then lW (wordIx (s.take (hd s))) else rArg (wordIx (s.take (hd s))) (s.drop (hd s + 1))
theorem wordIx_wd {k : Nat} (h : isWord k) : wordIx (wd k) = k := by
  unfold isWord at h
  rcases h with rfl | rfl | rfl | rfl | rfl | rfl | rfl | rfl | rfl | rfl | rfl <;> decide
theorem wd_pre {k : Nat} (h : isWord k) (t : List UInt8) : ([37, 115, 47] : List UInt8).isPrefixOf (wd k ++ t) = false ∧ ([115, 47] : List UInt8).isPrefixOf (wd k ++ t) = false := by
  unfold isWord at h
  rcases h with rfl | rfl | rfl | rfl | rfl | rfl | rfl | rfl | rfl | rfl | rfl <;> exact ⟨rfl, rfl⟩
theorem wd_notpre {k : Nat} (h : isWord k) (t : List UInt8) : ¬ (([37, 115, 47] : List UInt8).isPrefixOf (wd k ++ t) = true ∨ ([115, 47] : List UInt8).isPrefixOf (wd k ++ t) = true) := by
  rw [(wd_pre h t).1, (wd_pre h t).2]; simp
theorem num_notpre (n : Nat) : ¬ (([37, 115, 47] : List UInt8).isPrefixOf (numB n) = true ∨ ([115, 47] : List UInt8).isPrefixOf (numB n) = true) := by
  obtain ⟨c, l, e, hd⟩ := numB_cons n
  have h1 : ¬ (37 = c) := by rintro rfl; simp [dig] at hd
  have h2 : ¬ (115 = c) := by rintro rfl; simp [dig] at hd
  rw [e]
  simp [List.isPrefixOf, h1, h2]
theorem rArg_tail {x : Ln} (h : Fit x) {k : Nat} (hx : x.nm = k) (hk : isWord k) (t : List UInt8) (ht : tailB x = 32 :: t) : rArg k t = x := by
  unfold isWord at hk
  cases h with
  | none => simp only [zL] at hx; omega
  | goto n h1 h2 => simp only [lN] at hx; omega
  | sort l h =>
    simp only [lS] at hx
    obtain rfl : k = 2 := by omega
    have e : tailB (lS l) = keysB l := by simp [tailB, lS]
    rw [e] at ht
    rw [rArg, if_neg (by omega), if_neg (by omega), if_pos rfl]
    obtain ⟨ha, hl⟩ := bysOk_all h
    cases l with
    | nil => cases ht
    | cons b l =>
      rw [keysB_cons'] at ht
      simp only [List.cons.injEq, true_and] at ht
      rw [← ht, keysR_keysB 5 b l ha (by simp at hl; omega)]
  | test j t' hj h =>
    simp only [lT] at hx
    have e : tailB (lT j t') = 32 :: tText t' := by
      rw [← tPrint_right h]
      rcases hj with rfl | rfl <;> simp [tailB, lT, keysB]
    rw [e] at ht
    simp only [List.cons.injEq, true_and] at ht
    rw [rArg, if_pos (by omega), ← ht, ftG_text h, ← hx]
  | bare j hj =>
    simp only [lW] at hx
    have n5 : ¬ (j = 5 ∨ j = 6 ∨ j = 13) := by omega
    have e : tailB (lW j) = [] := by simp [tailB, lW, keysB, n5]
    rw [e] at ht; cases ht
  | num j n h =>
    simp only [lN] at hx
    have n5 : j = 5 ∨ j = 6 ∨ j = 13 := by omega
    have e : tailB (lN j n) = 32 :: numB n.toNat := by simp [tailB, lN, keysB, n5]
    rw [e] at ht
    simp only [List.cons.injEq, true_and] at ht
    have hv := valD_num 2147483647 n.toNat [] (by omega) (.inl rfl)
    rw [List.append_nil] at hv
    rw [rArg, if_neg (by omega), if_pos (by omega), ← ht, hv, ← hx]
    congr 1
    omega
  | subst whole each pat wth hp h1 h2 => simp only [lP] at hx; omega
theorem lW_tail {x : Ln} (h : Fit x) {k : Nat} (hx : x.nm = k) (hk : isWord k) (ht : tailB x = []) : lW k = x := by
  unfold isWord at hk
  cases h with
  | none => simp only [zL] at hx; omega
  | goto n h1 h2 => simp only [lN] at hx; omega
  | sort l h =>
    simp only [lS] at hx
    have e : tailB (lS l) = keysB l := by simp [tailB, lS]
    rw [e] at ht
    cases l with
    | nil => rw [← hx]; rfl
    | cons b l => rw [keysB_cons'] at ht; cases ht
  | test j t' hj h =>
    have e : tailB (lT j t') = 32 :: tText t' := by
      rw [← tPrint_right h]
      rcases hj with rfl | rfl <;> simp [tailB, lT, keysB]
    rw [e] at ht; cases ht
  | bare j hj => simp only [lW] at hx; rw [← hx]
  | num j n h =>
    have n5 : j = 5 ∨ j = 6 ∨ j = 13 := by omega
    have e : tailB (lN j n) = 32 :: numB n.toNat := by simp [tailB, lN, keysB, n5]
    rw [e] at ht; cases ht
  | subst whole each pat wth hp h1 h2 => simp only [lP] at hx; omega
theorem subR_last (each : Bool) (pat wth : ByteArray) (l : List UInt8) : ((l ++ subR each pat wth).getLast? == some 103) = each := by
  have : l ++ subR each pat wth = (l ++ esc pat.data.toList ++ [47] ++ esc wth.data.toList) ++ ([47] ++ gB each) := by simp [subR]
  rw [this, List.getLast?_append]
  cases each <;> rfl
theorem rGuess_fit {y : Ln} (hy : Fit y) : rGuess (rText y) = y := by
  rcases fit_text hy with ⟨rfl, e⟩ | ⟨n, n1, n2, rfl, e⟩ | ⟨j, hj, hx, e⟩ | ⟨whole, each, pat, wth, rfl, e⟩
  · rw [e, rGuess, if_neg (by decide), if_neg (by decide), if_pos (show hd [] = ([] : List UInt8).length from rfl)]; rfl
  · have hv := valD_num 1000000 n.toNat [] (by omega) (.inl rfl)
    rw [List.append_nil] at hv
    rw [e, rGuess, if_neg (num_notpre _), if_pos (num_notsub _).2.2.1, hv]
    congr 1; omega
  · have h2 := hd_word_take (wd_plain j) (tail_stop y)
    have h3 := hd_word (wd_plain j) (tail_stop y)
    rw [e, rGuess, if_neg (wd_notpre hj _), if_neg (by rw [(wd_notsub hj _).2.2.1]; omega), h2.1, wordIx_wd hj, h3, List.length_append]
    rcases tail_stop y with ht | ⟨t, ht⟩
    · rw [ht, if_pos (show (wd j).length = (wd j).length + ([] : List UInt8).length from rfl)]; exact lW_tail hy hx hj ht
    · rw [ht, if_neg (by simp), show wd j ++ 32 :: t = (wd j ++ [32]) ++ t by simp, show (wd j).length + 1 = (wd j ++ [32]).length by simp, List.drop_left]
      exact rArg_tail hy hx hj t ht
  · rw [e, rGuess, subB_eq]
    have h1 : ∀ w : Bool, w = true → ([37, 115, 47] : List UInt8).isPrefixOf ((if w = true then [37] else []) ++ ([115, 47] ++ subR each pat wth)) = true := by rintro w rfl; rfl
    cases whole
    · have p1 : ([37, 115, 47] : List UInt8).isPrefixOf ((if false = true then [37] else []) ++ ([115, 47] ++ subR each pat wth)) = false := rfl
      have p2 : ([115, 47] : List UInt8).isPrefixOf ((if false = true then [37] else []) ++ ([115, 47] ++ subR each pat wth)) = true := rfl
      rw [if_pos (.inr p2), p1]
      have hdrop : List.drop (if false = true then 3 else 2) ((if false = true then [37] else []) ++ ([115, 47] ++ subR each pat wth)) = subR each pat wth := rfl
      rw [hdrop, cuts_subR]
      simp only
      rw [bs_of, bs_of]
      have := subR_last each pat wth [115, 47]
      simp only [Bool.false_eq_true, if_false, List.nil_append]
      rw [this]
    · have p1 : ([37, 115, 47] : List UInt8).isPrefixOf ((if true = true then [37] else []) ++ ([115, 47] ++ subR each pat wth)) = true := rfl
      rw [if_pos (.inl p1), p1]
      have hdrop : List.drop (if true = true then 3 else 2) ((if true = true then [37] else []) ++ ([115, 47] ++ subR each pat wth)) = subR each pat wth := rfl
      rw [hdrop, cuts_subR]
      simp only
      rw [bs_of, bs_of]
      have := subR_last each pat wth [37, 115, 47]
      simp only [if_true]
      rw [show ([37] : List UInt8) ++ ([115, 47] ++ subR each pat wth) = [37, 115, 47] ++ subR each pat wth from rfl, this]
theorem rText_inj {x y : Ln} (hx : Fit x) (hy : Fit y) (h : rText x = rText y) : x = y := by
  rw [← rGuess_fit hx, h, rGuess_fit hy]

def rStart (s : List UInt8) : Bool := ([115, 47] : List UInt8).isPrefixOf s || ([37, 115, 47] : List UInt8).isPrefixOf s
theorem rStart_sub (s : List UInt8) : rStart s = isSub s := by
  unfold rStart isSub Lib.trimPrefix Lib.hasPrefix
  match s with
  | [] => rfl
  | [a] => simp [List.isPrefixOf]; split <;> simp [List.isPrefixOf]
  | a :: b :: l =>
    by_cases h : 37 = a
    · subst h; simp [List.isPrefixOf]
    · simp [List.isPrefixOf, h]
def rS (s : List UInt8) : List UInt8 := if rStart s then s else if (rFull (s.take (hd s))).2 then (rFull (s.take (hd s))).1 ++ s.drop (hd s) else s
noncomputable def rParse (s : List UInt8) : Ln × Int :=
  if 100 < s.length then (zL, 7) else if rFits (rGuess (rS s)) && rText (rGuess (rS s)) == rS s then (rGuess (rS s), 0) else if (rFull (s.take (hd s))).2 || rStart s || firstDig s then (zL, 3) else (zL, 11)
theorem named_nodig {s : List UInt8} {k : Nat} (h : pNamed (s.take (hd s)) = [k]) : firstDig s = false := by
  obtain ⟨hw, hne, hp⟩ := named_word h
  cases s with
  | nil => rfl
  | cons c s =>
    have hc : c ≠ 32 := by rintro rfl; exact hne rfl
    rw [hd_go (by simpa using hc), List.take_succ_cons] at hp
    have h2 := (wd_notsub hw []).2.1
    rw [List.append_nil] at h2
    cases e : wd k with
    | nil => rw [e] at hp; cases hp
    | cons d r =>
      rw [e] at hp h2
      simp only [List.isPrefixOf, Bool.and_eq_true, beq_iff_eq] at hp
      rw [hp.1]; exact h2
theorem parse_same (s : List UInt8) : pParse s = rParse s := by
  by_cases hl : 100 < s.length
  · rw [pParse, rParse, if_pos hl, if_pos hl]
  · have hl' : s.length ≤ 100 := by omega
    have hS : (pRead s).2.2 = true → rS s = (pRead s).2.1 := fun h => by
      unfold pRead at h ⊢
      rw [rS, rStart_sub, rFull_named]
      by_cases h1 : isSub s = true
      · rw [if_pos h1, if_pos h1]
      · rw [if_neg h1, if_neg h1]
        rw [if_neg h1] at h
        by_cases h2 : firstDig s = true
        · rw [if_pos h2]
          split
          · rename_i hf
            cases hn : pNamed (s.take (hd s)) with
            | nil => rw [hn] at hf; cases hf
            | cons k l =>
              cases l with
              | nil => rw [named_nodig hn] at h2; cases h2
              | cons => rw [hn] at hf; cases hf
          · rfl
        · rw [if_neg h2] at h ⊢
          cases hn : pNamed (s.take (hd s)) with
          | nil => rfl
          | cons k l =>
            cases l with
            | nil => rfl
            | cons => rfl
    have hE : ((rFull (s.take (hd s))).2 || rStart s || firstDig s) = false → (pRead s).2.2 = s.isEmpty := fun h => by
      rw [rFull_named, rStart_sub] at h
      simp only [Bool.or_eq_false_iff] at h
      unfold pRead
      rw [h.1.2, h.2]
      cases hn : pNamed (s.take (hd s)) with
      | nil => rfl
      | cons k l =>
        cases l with
        | nil => rw [hn] at h; exact absurd h.1.1 (by simp [fullOf])
        | cons => rfl
    have hE2 : (pRead s).2.2 = false → ((rFull (s.take (hd s))).2 || rStart s || firstDig s) = false ∧ rS s = s := fun h => by
      unfold pRead at h
      by_cases h1 : isSub s = true
      · rw [if_pos h1] at h; cases h
      · rw [if_neg h1] at h
        by_cases h2 : firstDig s = true
        · rw [if_pos h2] at h; cases h
        · rw [if_neg h2] at h
          rw [rS, rFull_named, rStart_sub, Bool.not_eq_true _ |>.mp h1, Bool.not_eq_true _ |>.mp h2]
          cases hn : pNamed (s.take (hd s)) with
          | nil => exact ⟨rfl, rfl⟩
          | cons k l =>
            cases l with
            | nil => rw [hn] at h; cases h
            | cons => exact ⟨rfl, rfl⟩
    by_cases hy : ∃ y, Fit y ∧ rText y = rS s
    · obtain ⟨y, hf, ht⟩ := hy
      have hr : rParse s = (y, 0) := by
        rw [rParse, if_neg hl, ← ht, rGuess_fit hf, fit_rfits hf]; simp
      rw [hr]
      cases hok : (pRead s).2.2 with
      | true => exact pParse_yes hl' hok hf (by rw [ht, hS hok])
      | false => exact absurd (ht.trans (hE2 hok).2) (pRead_none hok hf)
    · have hn : ∀ y, Fit y → rText y ≠ rS s := fun y hf ht => hy ⟨y, hf, ht⟩
      have hr : rParse s = if (rFull (s.take (hd s))).2 || rStart s || firstDig s then (zL, 3) else (zL, 11) := by
        rw [rParse, if_neg hl, if_neg]
        intro q
        simp only [Bool.and_eq_true, beq_iff_eq] at q
        exact hn _ (rfits_fit q.1) q.2
      rw [hr]
      cases hok : (pRead s).2.2 with
      | true =>
        rw [pParse_no hl' hok (by rw [← hS hok]; exact hn)]
        cases hb : ((rFull (s.take (hd s))).2 || rStart s || firstDig s) with
        | true => rfl
        | false =>
          have := hE hb
          rw [hok] at this
          have hs : s = [] := List.isEmpty_iff.mp this.symm
          exact absurd (show rText zL = rS s by subst hs; rfl) (hn zL Fit.none)
      | false =>
        rw [(hE2 hok).1, pParse, if_neg hl, hok]; rfl

/-! ### A beginning of a name -/
theorem short_named {m : Nat} (hm : isWord m) {j k : Nat} (h : pNamed ((wd m).take (j + 1)) = [k]) : k = m := by
  rcases Nat.lt_or_ge j 9 with hj | hj
  · unfold isWord at hm
    have : ∀ j < 9, ∀ m ∈ [2, 3, 4, 5, 6, 8, 9, 10, 11, 12, 13], pNamed ((wd m).take (j + 1)) = [m] ∨ (pNamed ((wd m).take (j + 1))).length ≠ 1 := by decide
    rcases this j hj m (by simp; omega) with e | e
    · rw [e] at h; simpa using h.symm
    · rw [h] at e; exact absurd rfl e
  · rw [List.take_of_length_le (by have := wd_len m; omega), named_wd hm] at h
    simpa using h.symm
theorem take_plain {p : List UInt8} (h : p.all (fun c => c != 32) = true) (j : Nat) : (p.take j).all (fun c => c != 32) = true := by
  rw [List.all_eq_true] at h ⊢
  exact fun x hx => h x (List.mem_of_mem_take hx)
theorem short_pre {m : Nat} (hm : isWord m) (j : Nat) {t : List UInt8} (ht : Tail t) : isSub ((wd m).take (j + 1) ++ t) = false ∧ firstDig ((wd m).take (j + 1) ++ t) = false ∧ (wd m).take (j + 1) ++ t ≠ [] := by
  rcases Nat.lt_or_ge j 9 with hj | hj
  · unfold isWord at hm
    rcases ht with rfl | ⟨r, rfl⟩
    · have : ∀ j < 9, ∀ m ∈ [2, 3, 4, 5, 6, 8, 9, 10, 11, 12, 13], isSub ((wd m).take (j + 1) ++ []) = false ∧ firstDig ((wd m).take (j + 1) ++ []) = false ∧ (wd m).take (j + 1) ++ [] ≠ [] := by decide
      exact this j hj m (by simp; omega)
    · have h9 : j = 0 ∨ j = 1 ∨ j = 2 ∨ j = 3 ∨ j = 4 ∨ j = 5 ∨ j = 6 ∨ j = 7 ∨ j = 8 := by omega
      rcases hm with rfl | rfl | rfl | rfl | rfl | rfl | rfl | rfl | rfl | rfl | rfl <;> rcases h9 with rfl | rfl | rfl | rfl | rfl | rfl | rfl | rfl | rfl <;> exact ⟨rfl, rfl, by simp [wd, wordsL]⟩
  · rw [List.take_of_length_le (by have := wd_len m; omega)]
    have := wd_notsub hm t
    exact ⟨this.1, this.2.1, this.2.2.2⟩
theorem short_parse {x : Ln} (hx : Fit x) {m : Nat} (hm : x.nm = m) (hw : isWord m) (j : Nat) (hl : (rText x).length ≤ 100) :
    pParse ((wd m).take (j + 1) ++ tailB x) = if (rFull ((wd m).take (j + 1))).2 then (x, 0) else (zL, 11) := by
  have hlen : ((wd m).take (j + 1) ++ tailB x).length ≤ 100 := by
    rw [rText_word hm hw] at hl
    simp only [List.length_append, List.length_take] at hl ⊢
    omega
  have hp := short_pre hw j (tail_stop x)
  have ht := hd_word_take (take_plain (wd_plain m) (j + 1)) (tail_stop x)
  rw [rFull_named]
  cases hn : pNamed ((wd m).take (j + 1)) with
  | nil =>
    have : (pRead ((wd m).take (j + 1) ++ tailB x)).2.2 = false := by
      unfold pRead
      rw [hp.1, hp.2.1, ht.1, hn]
      simpa using hp.2.2
    rw [pParse, if_neg (by omega), this]; rfl
  | cons k l =>
    cases l with
    | nil =>
      obtain rfl := short_named hw hn
      have e : pRead ((wd k).take (j + 1) ++ tailB x) = (pArg k (tailB x), wd k ++ tailB x, true) := by
        unfold pRead
        rw [hp.1, hp.2.1, ht.1, ht.2, hn]
        rfl
      rw [pParse_yes hlen (by rw [e]) hx (by rw [e, rText_word hm hw])]
      rfl
    | cons k2 l =>
      have : (pRead ((wd m).take (j + 1) ++ tailB x)).2.2 = false := by
        unfold pRead
        rw [hp.1, hp.2.1, ht.1, hn]
        simpa using hp.2.2
      rw [pParse, if_neg (by omega), this]; rfl
end Go.Proofs.YtckmkhcahnijmaaGreatDoor
