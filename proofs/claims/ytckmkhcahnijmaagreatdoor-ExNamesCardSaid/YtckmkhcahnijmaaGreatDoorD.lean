/- The walks of the reference: names (damierref25.Words, Full). -/
import Derived.Test.YtckmkhcahnijmaaGreatDoorC
namespace Go.Proofs.YtckmkhcahnijmaaGreatDoor
open Go.RowKit
set_option linter.unusedVariables false
set_option linter.unusedSimpArgs false

def wordsL : List (List UInt8) := [[], [], [115, 111, 114, 116], [102, 105, 108, 116, 101, 114], [110, 97, 114, 114, 111, 119], [109, 111, 118, 101], [114, 111, 119], [], [116, 114, 97, 110, 115, 112, 111, 115, 101], [117, 112, 101, 110, 100], [109, 105, 114, 114, 111, 114], [119, 114, 105, 116, 101], [112, 97, 100], [117, 110, 100, 111]]
def wd (k : Nat) : List UInt8 := wordsL.getD k []
def wordCells : Array Value := (wordsL.map fun l => Value.string (bs l)).toArray
theorem wordCells_get (k : Nat) (h : k < 14) : wordCells[k]? = some (.string (bs (wd k))) := by
  match k, h with
  | 0, _ => rfl | 1, _ => rfl | 2, _ => rfl | 3, _ => rfl | 4, _ => rfl | 5, _ => rfl | 6, _ => rfl
  | 7, _ => rfl | 8, _ => rfl | 9, _ => rfl | 10, _ => rfl | 11, _ => rfl | 12, _ => rfl | 13, _ => rfl

set_option maxHeartbeats 400000 in
theorem words_any (w : World) :
    Calls Tryz.prog 21 #[] w fun e w' => e = .returned (.slice (some ⟨w.heap.size, 0, none⟩) 14 14) ∧ w.alloc (.cells wordCells 9) = w' := by
  go_enter Tryz.func21, Tryz.ntmps21
  go_wp2
  go_ret
  exact ⟨rfl, rfl⟩

/-- The name of which a text is a beginning, as the reference seeks it. -/
def fullG (s : List UInt8) : List (List UInt8) → List UInt8 → Nat → List UInt8 × Bool
  | [], f, n => if n = 1 then (f, true) else ([], false)
  | w :: ws, f, n => if w ≠ [] ∧ s = w then (w, true) else if w ≠ [] ∧ s ≠ [] ∧ s.isPrefixOf w = true then fullG s ws w (n + 1) else fullG s ws f n
def rFull (s : List UInt8) : List UInt8 × Bool := fullG s wordsL [] 0
theorem words_drop (k : Nat) (h : k < 14) : wordsL.drop k = wd k :: wordsL.drop (k + 1) := by
  rw [List.drop_eq_getElem_cons (by simpa [wordsL] using h)]
  congr 1
  simp [wd, List.getD_eq_getElem?_getD, List.getElem?_eq_getElem (show k < wordsL.length by simpa [wordsL] using h)]
theorem fullG_hit {s w ws f n} (h : w ≠ []) (he : s = w) : fullG s (w :: ws) f n = (w, true) := by rw [fullG, if_pos ⟨h, he⟩]
theorem fullG_skip {s w ws f n} (h : w = []) : fullG s (w :: ws) f n = fullG s ws f n := by rw [fullG, if_neg (fun q => q.1 h), if_neg (fun q => q.1 h)]
theorem fullG_more {s w ws f n} (h : w ≠ []) (he : s ≠ w) (hs : s ≠ []) (hp : s.isPrefixOf w = true) : fullG s (w :: ws) f n = fullG s ws w (n + 1) := by rw [fullG, if_neg (fun q => he q.2), if_pos ⟨h, hs, hp⟩]
theorem fullG_pass {s w ws f n} (he : s ≠ w) (hs : s = [] ∨ s.isPrefixOf w = false) : fullG s (w :: ws) f n = fullG s ws f n := by
  rw [fullG, if_neg (fun q => he q.2), if_neg (fun q => ?_)]
  rcases hs with h | h
  · exact q.2.1 h
  · rw [q.2.2] at h; cases h

set_option maxHeartbeats 400000 in
theorem rfull_any (s : ByteArray) (w : World) (hs : s.size ≤ 65536) :
    Calls Tryz.prog 20 #[.string s] w fun e w' => e = .returned (.tuple #[.string (bs (rFull s.data.toList).1), .bool (rFull s.data.toList).2]) ∧ Below w.heap.size w w' := by
  go_enter Tryz.func20, Tryz.ntmps20
  go_wp2_with (first | (go_at_call 21; refine (words_any _).mono ?_; rintro e w' ⟨rfl, rfl⟩))
  go_loop [4, 5, 10] (fun f n i => ∃ (k m : Nat) (fo : ByteArray), k ≤ 14 ∧ m ≤ k ∧ i = .int .i64 k ∧ n = .int .i64 m ∧ f = .string fo ∧ rFull s.data.toList = fullG s.data.toList (wordsL.drop k) fo.data.toList m) (fun _ _ i => 14 - (intOf i).toNat)
  case atStart => exact ⟨0, 0, _, by omega, by omega, rfl, rfl, rfl, rfl⟩
  case round =>
    obtain ⟨k, m, fo, hk, hm, rfl, rfl, rfl, hr⟩ := hrel
    have HR := Lib.hid hr; clear hr
    have hbl : Below w.heap.size w (w.alloc (.cells wordCells 9)) := (Below.refl _ _).alloc (Nat.le_refl _) _
    by_cases hlt : k < 14
    · have hc : (w.alloc (.cells wordCells 9)).cell? ⟨w.heap.size, k, none⟩ = some (.string (bs (wd k))) := by
        rw [← wordCells_get k hlt]; exact cell_of_row _ _ _ _ _ _ (heap_alloc_new w _)
      have HW := Lib.hid (words_drop k hlt)
      by_cases hw : wd k = []
      · have f1 : (bs (wd k)).toList = [] := by rw [toList_L, bs_L, hw]
        have HW' := Lib.hid hw; clear hw
        go_wp2_with fail
        go_round
        case rel => exact ⟨k + 1, m, fo, by omega, by omega, by go_num, rfl, rfl, by rw [HR.out, HW.out, fullG_skip HW'.out]⟩
        case measure => simp [intOf]; omega
      · have f1 : (bs (wd k)).toList.isEmpty = false := by rw [toList_L, bs_L]; simpa using hw
        have f1' : ¬ ((bs (wd k)).toList = []) := by rw [toList_L, bs_L]; exact hw
        have HW' := Lib.hid hw; clear hw
        cases he : s.toList == (bs (wd k)).toList
        · have he' : s.data.toList ≠ wd k := by
            intro h; rw [toList_L, toList_L, bs_L, h] at he; simp at he
          have HE := Lib.hid he'; clear he'
          by_cases h0 : s.toList = []
          · have H0 := Lib.hid h0
            go_wp2_with fail
            go_round
            case rel => exact ⟨k + 1, m, fo, by omega, by omega, by go_num, rfl, rfl, by rw [HR.out, HW.out, fullG_pass HE.out (.inl (by rw [← toList_L]; exact H0.out))]⟩
            case measure => simp [intOf]; omega
          · have f2 : s.toList.isEmpty = false := by simpa using h0
            have H0 := Lib.hid h0
            cases hp : s.data.toList.isPrefixOf (bs (wd k)).data.toList
            · go_wp2_with (first | (go_at_call 31; refine (starts_any _ _ _).mono ?_; rintro e w' ⟨rfl, rfl⟩))
              go_round
              case rel => exact ⟨k + 1, m, fo, by omega, by omega, by go_num, rfl, rfl, by rw [HR.out, HW.out, fullG_pass HE.out (.inr hp)]⟩
              case measure => simp [intOf]; omega
            · go_wp2_with (first | (go_at_call 31; refine (starts_any _ _ _).mono ?_; rintro e w' ⟨rfl, rfl⟩))
              go_round
              case rel => exact ⟨k + 1, m + 1, _, by omega, by omega, by go_num, by go_num, rfl, by rw [HR.out, HW.out, fullG_more HW'.out HE.out (by rw [← toList_L]; exact H0.out) hp]; rfl⟩
              case measure => simp [intOf]; omega
        · have he' : s.data.toList = wd k := by rw [beq_iff_eq, toList_L, toList_L, bs_L] at he; exact he
          have HE := Lib.hid he'; clear he'
          go_wp2_with fail
          go_ret2
          exact ⟨ret_2 (str_eq (by rw [HR.out, HW.out, fullG_hit HW'.out HE.out])) (bool_eq (by rw [HR.out, HW.out, fullG_hit HW'.out HE.out])), hbl⟩
    · have HK := Lib.hid (show k = 14 by omega)
      have HN := Lib.hid (show wordsL.drop k = [] by rw [HK.out]; rfl)
      by_cases h1 : m = 1
      · have H1 := Lib.hid h1
        go_wp2_with fail
        go_ret2
        exact ⟨ret_2 (str_eq (by rw [HR.out, HN.out, fullG, if_pos H1.out]; rfl)) (bool_eq (by rw [HR.out, HN.out, fullG, if_pos H1.out])), hbl⟩
      · have f3 : ((m : Int) != 1) = true := by rw [bne_iff_ne]; omega
        have H1 := Lib.hid h1; clear h1
        go_wp2_with fail
        go_ret2
        exact ⟨ret_2 (str_eq (by rw [HR.out, HN.out, fullG, if_neg H1.out]; rfl)) (bool_eq (by rw [HR.out, HN.out, fullG, if_neg H1.out])), hbl⟩
end Go.Proofs.YtckmkhcahnijmaaGreatDoor
