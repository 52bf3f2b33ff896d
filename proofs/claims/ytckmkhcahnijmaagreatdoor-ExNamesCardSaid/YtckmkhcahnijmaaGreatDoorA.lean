/- Plain words on bytes, digits and lines: what the functions of chapters 2, 16, 18 and 25 compute, as Lean functions on lists of bytes; no program in sight. -/
import Derived.WalkKit
import Derived.WalkSpells
import Derived.WalkLawsBesides
import Derived.Lib.Hide
import Derived.Laws.BytesArg
namespace Go.Proofs.YtckmkhcahnijmaaGreatDoor
open Go.RowKit

/-- A text of bytes. -/
def bs (l : List UInt8) : ByteArray := ⟨l.toArray⟩
theorem bs_L (l : List UInt8) : (bs l).data.toList = l := rfl
theorem bs_size (l : List UInt8) : (bs l).size = l.length := rfl
theorem bs_of (s : ByteArray) : bs s.data.toList = s := rfl
theorem L_len (s : ByteArray) : s.data.toList.length = s.size := rfl
theorem ba_ext {a b : ByteArray} (h : a.data.toList = b.data.toList) : a = b := by
  obtain ⟨⟨a⟩⟩ := a; obtain ⟨⟨b⟩⟩ := b; simp at h; rw [h]
theorem get_L (s : ByteArray) (k : Nat) (h : k < s.size) : s.data.toList[k]'(h) = s[k] := rfl
theorem ext_L (s : ByteArray) (i j : Nat) : (s.extract i j).data.toList = (s.data.toList.take j).drop i := by
  simp [ByteArray.data_extract, List.extract_eq_take_drop, List.drop_take]
theorem app_L (s t : ByteArray) : (s ++ t).data.toList = s.data.toList ++ t.data.toList := by simp [ByteArray.data_append]
theorem bs_app (l m : List UInt8) : bs (l ++ m) = bs l ++ bs m := ba_ext (by rw [app_L]; rfl)
theorem take_snoc (s : ByteArray) (k : Nat) (h : k < s.size) : s.data.toList.take (k + 1) = s.data.toList.take k ++ [s[k]] := by
  rw [List.take_succ_eq_append_getElem (by simpa using h)]; rfl
theorem take_all (s : ByteArray) : s.data.toList.take s.size = s.data.toList := List.take_of_length_le (Nat.le_refl _)
theorem one_L (s : ByteArray) (k : Nat) (h : k < s.size) : (s.extract k (k + 1)).data.toList = [s[k]] := by
  rw [ext_L, take_snoc s k h, List.drop_append_of_le_length (by rw [List.length_take, L_len]; omega), List.drop_eq_nil_of_le (by rw [List.length_take, L_len]; omega)]; rfl
theorem drop_cons (s : ByteArray) (k : Nat) (h : k < s.size) : s.data.toList.drop k = s[k] :: s.data.toList.drop (k + 1) := by
  rw [List.drop_eq_getElem_cons (by simpa using h)]; rfl

theorem one_size (c : UInt8) : (⟨#[c]⟩ : ByteArray).size = 1 := rfl
theorem toList_L (s : ByteArray) : s.toList = s.data.toList := ByteArray.toList_eq s

/-! ### Bytes -/
def dig (c : UInt8) : Bool := decide (48 ≤ c.toNat) && decide (c.toNat ≤ 57)
def noEnd (l : List UInt8) : Bool := l.all fun c => c != 10 && c != 13
/-- How many bytes at the begin of l are as p says. -/
def cnt (p : UInt8 → Bool) : List UInt8 → Nat
  | [] => 0
  | c :: l => if p c then cnt p l + 1 else 0
theorem cnt_le (p : UInt8 → Bool) (l : List UInt8) : cnt p l ≤ l.length := by
  induction l with
  | nil => simp [cnt]
  | cons c l ih => simp only [cnt, List.length_cons]; split <;> omega
def hd (l : List UInt8) : Nat := cnt (fun c => c != 32) l
def esc (l : List UInt8) : List UInt8 := l.flatMap fun c => if c == 47 || c == 92 then [92, c] else [c]
/-- The digits of a number; none of 0. -/
def dgs (n : Nat) : List UInt8 := if _h : n = 0 then [] else dgs (n / 10) ++ [UInt8.ofNat (48 + n % 10)]
termination_by n
decreasing_by omega
def numB (n : Nat) : List UInt8 := if n = 0 then [48] else dgs n
/-- What digits tell, at most so much. -/
def valD (most : Nat) (n : Nat) : List UInt8 → Nat
  | [] => n
  | c :: l => if dig c then valD most (min (n * 10 + (c.toNat - 48)) most) l else n
theorem hd_nil : hd [] = 0 := rfl
theorem hd_stop {l : List UInt8} {c : UInt8} (h : (c == 32) = true) : hd (c :: l) = 0 := by
  have : c = 32 := by simpa using h
  subst this; rfl
theorem hd_go {l : List UInt8} {c : UInt8} (h : (c == 32) = false) : hd (c :: l) = hd l + 1 := by
  have : (c != 32) = true := by simpa using h
  simp [hd, cnt, this]
theorem beq_byte (c : UInt8) (m : UInt8) : ((c.toNat : Int) == (m.toNat : Int)) = (c == m) := by
  rw [Bool.eq_iff_iff]; simp only [beq_iff_eq]
  constructor
  · intro h; exact UInt8.toNat.inj (by omega)
  · rintro rfl; rfl
theorem noEnd_cons (c : UInt8) (l : List UInt8) : noEnd (c :: l) = (c != 10 && c != 13 && noEnd l) := by simp [noEnd]
theorem esc_cons (c : UInt8) (l : List UInt8) : esc (c :: l) = (if c == 47 || c == 92 then [92, c] else [c]) ++ esc l := by simp [esc]
theorem ret_str {a b : ByteArray} (h : a = b) : Ending.returned (.string a) = .returned (.string b) := by rw [h]
theorem ret_bool {a b : Bool} (h : a = b) : Ending.returned (.bool a) = .returned (.bool b) := by rw [h]
theorem dgs_pos {k : Nat} (h : k ≠ 0) : dgs k = dgs (k / 10) ++ [UInt8.ofNat (48 + k % 10)] := by rw [dgs, dif_neg h]
theorem dgs_zero : dgs 0 = [] := by rw [dgs, dif_pos rfl]
theorem strOf_one {k : Nat} : (strOfNums [48 + (k : Int) % 10]).data.toList = [UInt8.ofNat (48 + k % 10)] := by
  show [UInt8.ofNat (48 + (k : Int) % 10).toNat] = _
  congr 2
theorem ret_2 {a b c d : Value} (h : a = c) (h2 : b = d) : Ending.returned (.tuple #[a, b]) = .returned (.tuple #[c, d]) := by rw [h, h2]
theorem valD_step {most v : Nat} {c : UInt8} {l : List UInt8} (h : dig c = true) : valD most v (c :: l) = valD most (min (v * 10 + (c.toNat - 48)) most) l := by simp [valD, h]
theorem valD_stop {most v : Nat} {c : UInt8} {l : List UInt8} (h : dig c = false) : valD most v (c :: l) = v := by simp [valD, h]
theorem cnt_step {p : UInt8 → Bool} {c : UInt8} {l : List UInt8} (h : p c = true) : cnt p (c :: l) = cnt p l + 1 := by simp [cnt, h]
theorem cnt_stop {p : UInt8 → Bool} {c : UInt8} {l : List UInt8} (h : p c = false) : cnt p (c :: l) = 0 := by simp [cnt, h]
theorem dig_range {c : UInt8} (h : dig c = true) : 48 ≤ c.toNat ∧ c.toNat ≤ 57 := by simpa [dig] using h
theorem int_eq {a b : Int} (h : a = b) : Value.int .i64 a = Value.int .i64 b := by rw [h]
theorem str_eq {a b : ByteArray} (h : a = b) : Value.string a = Value.string b := by rw [h]
theorem bool_eq {a b : Bool} (h : a = b) : Value.bool a = Value.bool b := by rw [h]
end Go.Proofs.YtckmkhcahnijmaaGreatDoor
