/- Plain laws of chapter 25: what is read is what was written. -/
import Derived.Test.YtckmkhcahnijmaaGreatDoorZ1
import Derived.Lib.SplitLaws
namespace Go.Proofs.YtckmkhcahnijmaaGreatDoor
open Go.RowKit
set_option linter.unusedVariables false
set_option linter.unusedSimpArgs false

/-! ### Numbers -/
def Stop (r : List UInt8) : Prop := r = [] ∨ ∃ c t, r = c :: t ∧ dig c = false
theorem valD_app (most : Nat) : ∀ (l r : List UInt8) (v : Nat), l.all dig = true → valD most v (l ++ r) = valD most (valD most v l) r
  | [], _, _, _ => rfl
  | c :: l, r, v, h => by
    rw [List.all_cons, Bool.and_eq_true] at h
    rw [List.cons_append, valD_step h.1, valD_step h.1, valD_app most l r _ h.2]
theorem valD_stop' {most v : Nat} {r : List UInt8} (h : Stop r) : valD most v r = v := by
  rcases h with rfl | ⟨c, t, rfl, h⟩
  · rfl
  · exact valD_stop h
theorem cnt_app (p : UInt8 → Bool) : ∀ (l r : List UInt8), l.all p = true → cnt p (l ++ r) = l.length + cnt p r
  | [], r, _ => by simp
  | c :: l, r, h => by
    rw [List.all_cons, Bool.and_eq_true] at h
    rw [List.cons_append, cnt_step h.1, cnt_app p l r h.2, List.length_cons]; omega
theorem cnt_stop' {r : List UInt8} (h : Stop r) : cnt dig r = 0 := by
  rcases h with rfl | ⟨c, t, rfl, h⟩
  · rfl
  · exact cnt_stop h
theorem dig_ofNat (n : Nat) : dig (UInt8.ofNat (48 + n % 10)) = true ∧ (UInt8.ofNat (48 + n % 10)).toNat = 48 + n % 10 := by
  have : (UInt8.ofNat (48 + n % 10)).toNat = 48 + n % 10 := UInt8.toNat_ofNat_of_lt' (by simp [UInt8.size]; omega)
  exact ⟨by simp [dig, this]; omega, this⟩
theorem dgs_dig (n : Nat) : (dgs n).all dig = true := by
  induction n using Nat.strongRecOn with
  | _ n ih =>
    rcases Nat.eq_zero_or_pos n with h | h
    · subst h; rw [dgs_zero]; rfl
    · rw [dgs_pos (by omega), List.all_append, ih (n / 10) (by omega), List.all_cons, (dig_ofNat n).1]; rfl
theorem valD_dgs (most n : Nat) (h : n ≤ most) : valD most 0 (dgs n) = n := by
  induction n using Nat.strongRecOn with
  | _ n ih =>
    rcases Nat.eq_zero_or_pos n with h0 | h0
    · subst h0; rw [dgs_zero]; rfl
    · rw [dgs_pos (by omega), valD_app _ _ _ _ (dgs_dig _), ih (n / 10) (by omega) (by omega), valD_step (dig_ofNat n).1, (dig_ofNat n).2]
      show min _ _ = _
      omega
theorem numB_dig (n : Nat) : (numB n).all dig = true := by
  rw [numB]; split
  · rfl
  · exact dgs_dig n
theorem valD_num (most n : Nat) (r : List UInt8) (h : n ≤ most) (hr : Stop r) : valD most 0 (numB n ++ r) = n := by
  rw [valD_app _ _ _ _ (numB_dig n), valD_stop' hr, numB]
  split
  · rename_i e; subst e; simp [valD, dig]
  · exact valD_dgs most n h
theorem cnt_num (n : Nat) (r : List UInt8) (hr : Stop r) : cnt dig (numB n ++ r) = (numB n).length := by
  rw [cnt_app _ _ _ (numB_dig n), cnt_stop' hr, Nat.add_zero]
theorem numB_ne (n : Nat) : numB n ≠ [] := by
  rw [numB]; split
  · simp
  · rename_i h; rw [dgs_pos h]; simp
theorem numB_cons (n : Nat) : ∃ c l, numB n = c :: l ∧ dig c = true := by
  have h := numB_dig n
  cases e : numB n with
  | nil => exact absurd e (numB_ne n)
  | cons c l => rw [e, List.all_cons, Bool.and_eq_true] at h; exact ⟨c, l, rfl, h.1⟩

/-! ### Tests -/
def signsL : List UInt8 := [126, 61, 60, 62, 94, 36, 63]
theorem sgn_ix (o : Nat) (h : o < 7) : Lib.indexByte signsL (sgn o) = o := by
  match o, h with
  | 0, _ => rfl | 1, _ => rfl | 2, _ => rfl | 3, _ => rfl | 4, _ => rfl | 5, _ => rfl | 6, _ => rfl
theorem sgn_dig (o : Nat) (h : o < 7) : dig (sgn o) = false := by
  match o, h with
  | 0, _ => rfl | 1, _ => rfl | 2, _ => rfl | 3, _ => rfl | 4, _ => rfl | 5, _ => rfl | 6, _ => rfl
def ptRest (s : List UInt8) : List UInt8 := (Lib.trimPrefix s [33]).drop (cnt dig (Lib.trimPrefix s [33]))
def ptTest (s : List UInt8) (c : UInt8) (a : List UInt8) : Tst := ⟨(valD 41 0 (Lib.trimPrefix s [33]) : Int) - 1, Lib.indexByte signsL c, bs a, Lib.hasPrefix s [33]⟩
/-- The test of a text, as the program reads it. -/
def ptG (s : List UInt8) : Option Tst :=
  match ptRest s with
  | [] => none
  | c :: a => if tRight (ptTest s c a) && (tPrint (ptTest s c a) == s) then some (ptTest s c a) else none
theorem ptG_text {t : Tst} (h : tRight t = true) : ptG (tText t) = some t := by
  obtain ⟨h1, h2, h3, h4, h5⟩ := tRight_ranges h
  have hP : tPrint t = tText t := by rw [tPrint, h]; rfl
  have hst : ∀ a, Stop (sgn t.op.toNat :: a) := fun a => .inr ⟨_, _, rfl, sgn_dig _ (by omega)⟩
  have hbody : Lib.trimPrefix (tText t) [33] = numB (t.col + 1).toNat ++ (sgn t.op.toNat :: t.arg.data.toList) ∧ Lib.hasPrefix (tText t) [33] = t.nt := by
    obtain ⟨c, l, e, hd⟩ := numB_cons (t.col + 1).toNat
    unfold Lib.trimPrefix Lib.hasPrefix tText
    cases t.nt
    · rw [e]
      have : ([33] : List UInt8).isPrefixOf (c :: l ++ [sgn t.op.toNat] ++ t.arg.data.toList) = false := by
        have hc : (33 == c) = false := by
          rw [beq_eq_false_iff_ne]; rintro rfl; simp [dig] at hd
        simp [List.isPrefixOf, hc]
      simp [List.isPrefixOf]
      have hc : ¬ (33 = c) := by rintro rfl; simp [dig] at hd
      simp [hc]
    · simp
  have hr : ptRest (tText t) = sgn t.op.toNat :: t.arg.data.toList := by
    unfold ptRest
    rw [hbody.1, cnt_num _ _ (hst _), List.drop_left]
  have ht : ptTest (tText t) (sgn t.op.toNat) t.arg.data.toList = t := by
    unfold ptTest
    rw [hbody.1, hbody.2, valD_num _ _ _ (by omega) (hst _), sgn_ix _ (by omega)]
    obtain ⟨col, op, arg, nt⟩ := t
    simp only [Tst.mk.injEq] at *
    exact ⟨by omega, by omega, bs_of _, trivial⟩
  unfold ptG
  rw [hr]
  simp only [ht, h, hP, beq_self_eq_true, Bool.and_self, if_true]
theorem ptG_some {s : List UInt8} {t : Tst} (h : ptG s = some t) : tRight t = true ∧ tPrint t = s := by
  unfold ptG at h
  split at h
  · cases h
  · split at h
    · rename_i q
      simp only [Option.some.injEq] at h
      subst h
      simpa using q
    · cases h
theorem tText_inj {t u : Tst} (ht : tRight t = true) (hu : tRight u = true) (h : tText t = tText u) : t = u := by
  have := ptG_text ht
  rw [h, ptG_text hu] at this
  exact (Option.some.inj this).symm

/-! ### Pieces of a substitution -/
def partsG : List UInt8 → List (List UInt8) → List UInt8 → Option (List (List UInt8))
  | [], i, l => some (i ++ [l])
  | [c], i, l => if c = 47 then some ((i ++ [l]) ++ [[]]) else if c = 92 then none else some (i ++ [l ++ [c]])
  | c :: d :: r, i, l => if c = 47 then partsG (d :: r) (i ++ [l]) [] else if c = 92 then (if d = 47 ∨ d = 92 then partsG r i (l ++ [d]) else none) else partsG (d :: r) i (l ++ [c])
theorem partsG_slash {c r i l} (h : c = 47) : partsG (c :: r) i l = partsG r (i ++ [l]) [] := by
  cases r with
  | nil => simp [partsG, h]
  | cons d r => rw [partsG, if_pos h]
theorem partsG_plain {c r i l} (h : c ≠ 47) (h2 : c ≠ 92) : partsG (c :: r) i l = partsG r i (l ++ [c]) := by
  cases r with
  | nil => simp [partsG, h, h2]
  | cons d r => rw [partsG, if_neg h, if_neg h2]
theorem partsG_esc {c d r i l} (h2 : c = 92) (hd : d = 47 ∨ d = 92) : partsG (c :: d :: r) i l = partsG r i (l ++ [d]) := by
  subst h2; rw [partsG, if_neg (by decide), if_pos rfl, if_pos hd]
theorem partsG_bad {c d r i l} (h2 : c = 92) (hd : d ≠ 47 ∧ d ≠ 92) : partsG (c :: d :: r) i l = none := by
  subst h2; rw [partsG, if_neg (by decide), if_pos rfl, if_neg (by simpa using hd)]
theorem partsG_end {c i l} (h2 : c = 92) : partsG [c] i l = none := by
  subst h2; rfl
theorem parts_esc : ∀ (p r : List UInt8) (i : List (List UInt8)) (l : List UInt8), partsG (esc p ++ r) i l = partsG r i (l ++ p)
  | [], r, i, l => by simp [esc]
  | c :: p, r, i, l => by
    rw [esc_cons]
    by_cases h : (c == 47 || c == 92) = true
    · rw [if_pos h]
      show partsG (92 :: c :: (esc p ++ r)) i l = _
      rw [partsG_esc rfl (by simpa using h), parts_esc p r]
      simp
    · rw [if_neg h]
      show partsG (c :: (esc p ++ r)) i l = _
      rw [partsG_plain (fun q => h (by simp [q])) (fun q => h (by simp [q])), parts_esc p r]
      simp
theorem cuts_esc : ∀ (p r : List UInt8) (i : List (List UInt8)) (l : List UInt8), cutsG (esc p ++ r) i l = cutsG r i (l ++ p)
  | [], r, i, l => by simp [esc]
  | c :: p, r, i, l => by
    rw [esc_cons]
    by_cases h : (c == 47 || c == 92) = true
    · rw [if_pos h]
      show cutsG (92 :: c :: (esc p ++ r)) i l = _
      rw [cutsG_esc rfl rfl, cuts_esc p r]
      simp
    · rw [if_neg h]
      show cutsG (c :: (esc p ++ r)) i l = _
      have h47 : (c == 47) = false := by rw [Bool.eq_false_iff]; exact fun q => h (by simp [q])
      have h92 : (c == 92) = false := by rw [Bool.eq_false_iff]; exact fun q => h (by simp [q])
      rw [cutsG_plain h47 h92, cuts_esc p r]
      simp
def gB (each : Bool) : List UInt8 := if each then [103] else []
def subR (each : Bool) (pat wth : ByteArray) : List UInt8 := esc pat.data.toList ++ ([47] ++ (esc wth.data.toList ++ ([47] ++ gB each)))
theorem subB_eq (whole each : Bool) (pat wth : ByteArray) : subB (lP whole each pat wth) = (if whole then [37] else []) ++ ([115, 47] ++ subR each pat wth) := by
  cases whole <;> cases each <;> simp [subB, lP, subR, gB]
theorem parts_subR (each : Bool) (pat wth : ByteArray) : partsG (subR each pat wth) [] [] = some [pat.data.toList, wth.data.toList, gB each] := by
  unfold subR
  rw [parts_esc, List.singleton_append, partsG_slash rfl, parts_esc, List.singleton_append, partsG_slash rfl]
  cases each <;> rfl
theorem cuts_subR (each : Bool) (pat wth : ByteArray) : cutsG (subR each pat wth) [] [] = [pat.data.toList, wth.data.toList, gB each] := by
  unfold subR
  rw [cuts_esc, List.singleton_append, cutsG_slash rfl, cuts_esc, List.singleton_append, cutsG_slash rfl]
  cases each <;> rfl

/-! ### Keys -/
def pieces : List UInt8 → List (List UInt8)
  | [] => [[]]
  | c :: l => if c = 32 then [] :: pieces l else (match pieces l with | p :: ps => (c :: p) :: ps | [] => [[c]])
theorem splitK_pieces : ∀ s : List UInt8, Lib.splitK [32] 0 (Lib.count s [32]) s = pieces s
  | [] => by rw [Lib.count_miss (by simp [Lib.index])]; rfl
  | b :: l => by
    have ih := splitK_pieces l
    by_cases h : b = 32
    · subst h
      rw [Lib.count_cons_eq, Nat.add_comm, Lib.splitK]
      have hix : Lib.index ((32 : UInt8) :: l) [32] = 0 := by rw [Lib.index]; simp [List.isPrefixOf]
      rw [hix]
      simp [pieces, ih]
    · rw [Lib.count_cons_ne _ _ _ h]
      have hp : ([32] : List UInt8).isPrefixOf (b :: l) = false := by simp [List.isPrefixOf, Ne.symm h]
      have hix : Lib.index (b :: l) [32] = if Lib.index l [32] == -1 then -1 else Lib.index l [32] + 1 := by rw [Lib.index, hp]; simp
      rw [pieces, if_neg h, ← ih]
      by_cases hm : Lib.index l [32] = -1
      · rw [Lib.count_miss hm]; rfl
      · have hge := Lib.index_ge l [32]
        obtain ⟨j, hj⟩ : ∃ j : Nat, Lib.index l [32] = j := ⟨(Lib.index l [32]).toNat, by omega⟩
        have hix' : Lib.index (b :: l) [32] = ((j + 1 : Nat) : Int) := by rw [hix, if_neg (fun e => hm (beq_iff_eq.1 e)), hj]; omega
        rw [Lib.count_hit (by simp) hj, Nat.add_comm, Lib.splitK, Lib.splitK, hix', hj]
        simp
        have e1 : ¬ ((j : Int) + 1 = -1) := by omega
        have e2 : ¬ ((j : Int) = -1) := by omega
        simp [e1, e2]
theorem pieces_ne (l : List UInt8) : pieces l ≠ [] := by
  cases l with
  | nil => simp [pieces]
  | cons c l => rw [pieces]; split; simp; split <;> simp
theorem pieces_app : ∀ (p r : List UInt8), p.all (fun c => c != 32) = true → pieces (p ++ 32 :: r) = p :: pieces r
  | [], r, _ => by simp [pieces]
  | c :: p, r, h => by
    rw [List.all_cons, Bool.and_eq_true] at h
    rw [List.cons_append, pieces, if_neg (by simpa using h.1), pieces_app p r h.2]
theorem pieces_one : ∀ (p : List UInt8), p.all (fun c => c != 32) = true → pieces p = [p]
  | [], _ => rfl
  | c :: p, h => by
    rw [List.all_cons, Bool.and_eq_true] at h
    rw [pieces, if_neg (by simpa using h.1), pieces_one p h.2]
/-- A key, as the program reads it. -/
def keyP (w : List UInt8) : Int × Bool := ((valD 41 0 (Lib.trimPrefix w [45]) : Int) - 1, Lib.hasPrefix w [45])
def keyB (b : Int × Bool) : List UInt8 := (if b.2 then [45] else []) ++ numB (b.1 + 1).toNat
theorem dig_not (n : Nat) (c : UInt8) (h : dig c = false) : (numB n).all (fun x => x != c) = true := by
  rw [List.all_eq_true]
  intro x hx
  have := List.all_eq_true.mp (numB_dig n) x hx
  rw [bne_iff_ne]; rintro rfl; rw [h] at this; cases this
theorem keyB_plain (b : Int × Bool) : (keyB b).all (fun c => c != 32) = true := by
  rw [keyB, List.all_append, dig_not _ 32 rfl]
  cases b.2 <;> rfl
theorem key_trim (b : Int × Bool) : Lib.trimPrefix (keyB b) [45] = numB (b.1 + 1).toNat ∧ Lib.hasPrefix (keyB b) [45] = b.2 := by
  obtain ⟨c, l, e, hd⟩ := numB_cons (b.1 + 1).toNat
  unfold Lib.trimPrefix Lib.hasPrefix keyB
  cases b.2
  · rw [e]
    have hc : ¬ (45 = c) := by rintro rfl; simp [dig] at hd
    simp [List.isPrefixOf, hc]
  · simp
theorem keyP_keyB (b : Int × Bool) (h : keyOk b = true) : keyP (keyB b) = b := by
  simp only [keyOk, Bool.and_eq_true, decide_eq_true_eq] at h
  have hv := valD_num 41 (b.1 + 1).toNat [] (by omega) (.inl rfl)
  rw [List.append_nil] at hv
  rw [keyP, (key_trim b).1, (key_trim b).2, hv]
  exact Prod.ext (by simp only; omega) rfl
def keysP (rest : List UInt8) : List (Int × Bool) := ((pieces rest).drop 1).map keyP
theorem keysB_cons' (b : Int × Bool) (l : List (Int × Bool)) : keysB (b :: l) = 32 :: (keyB b ++ keysB l) := by rw [keysB_cons]; simp [keyB]
theorem pieces_keys : ∀ (p : List UInt8) (l : List (Int × Bool)), p.all (fun c => c != 32) = true → pieces (p ++ keysB l) = p :: l.map keyB
  | p, [], h => by simp [keysB]; exact pieces_one p h
  | p, b :: l, h => by rw [keysB_cons', pieces_app p _ h, pieces_keys (keyB b) l (keyB_plain b), List.map_cons]
theorem keysP_keysB (l : List (Int × Bool)) (h : l.all keyOk = true) : keysP (keysB l) = l := by
  have := pieces_keys [] l rfl
  rw [List.nil_append] at this
  rw [keysP, this, List.drop_succ_cons, List.drop_zero, List.map_map]
  refine (List.map_congr_left (fun b hb => ?_)).trans (List.map_id _)
  exact keyP_keyB b (List.all_eq_true.mp h b hb)
/-- Keys, as the reference reads them. -/
def keyR (w : List UInt8) : Int × Bool := ((valD 1000 0 (if ([45] : List UInt8).isPrefixOf w then w.drop 1 else w) : Int) - 1, ([45] : List UInt8).isPrefixOf w)
def keysR : Nat → List UInt8 → List (Int × Bool)
  | 0, _ => []
  | f + 1, rest => if rest = [] then [] else keyR (rest.take (hd rest)) :: (if hd rest = rest.length then [] else keysR f (rest.drop (hd rest + 1)))
theorem keyR_keyB (b : Int × Bool) (h : keyOk b = true) : keyR (keyB b) = b := by
  simp only [keyOk, Bool.and_eq_true, decide_eq_true_eq] at h
  have hv := valD_num 1000 (b.1 + 1).toNat [] (by omega) (.inl rfl)
  rw [List.append_nil] at hv
  have h1 := (key_trim b).1
  have h2 := (key_trim b).2
  unfold Lib.trimPrefix Lib.hasPrefix at h1
  unfold Lib.hasPrefix at h2
  have h1' : (if ([45] : List UInt8).isPrefixOf (keyB b) then (keyB b).drop 1 else keyB b) = numB (b.1 + 1).toNat := h1
  rw [keyR, h1', h2, hv]
  exact Prod.ext (by simp only; omega) rfl
theorem hd_app (p r : List UInt8) (h : p.all (fun c => c != 32) = true) : hd (p ++ r) = p.length + hd r := cnt_app _ p r h
theorem keyB_ne (b : Int × Bool) : keyB b ≠ [] := by
  have := numB_ne (b.1 + 1).toNat
  rw [keyB]; simp [this]
theorem hd_keys (l : List (Int × Bool)) : hd (keysB l) = 0 := by
  cases l with
  | nil => rfl
  | cons b l => rw [keysB_cons']; rfl
theorem keysR_keysB : ∀ (f : Nat) (b : Int × Bool) (l : List (Int × Bool)), (b :: l).all keyOk = true → l.length < f → keysR f (keyB b ++ keysB l) = b :: l
  | 0, _, _, _, h => by omega
  | f + 1, b, l, hk, hf => by
    rw [List.all_cons, Bool.and_eq_true] at hk
    have hh : hd (keyB b ++ keysB l) = (keyB b).length := by rw [hd_app _ _ (keyB_plain b), hd_keys, Nat.add_zero]
    rw [keysR, if_neg (by simp [keyB_ne b]), hh, List.take_left, keyR_keyB b hk.1]
    cases l with
    | nil => rw [if_pos (by simp [keysB])]
    | cons c l =>
      rw [if_neg (by rw [keysB_cons']; simp), keysB_cons', show (keyB b).length + 1 = (keyB b ++ [32]).length by simp,
        show keyB b ++ 32 :: (keyB c ++ keysB l) = (keyB b ++ [32]) ++ (keyB c ++ keysB l) by simp, List.drop_left,
        keysR_keysB f c l hk.2 (by simp at hf; omega)]
end Go.Proofs.YtckmkhcahnijmaaGreatDoor
