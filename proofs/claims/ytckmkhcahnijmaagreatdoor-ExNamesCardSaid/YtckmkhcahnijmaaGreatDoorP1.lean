/- The walk of the library at this call: strings.IndexAny(s, CR LF), s any text of at most 8 bytes. -/
import Derived.Test.YtckmkhcahnijmaaGreatDoorN
import Derived.Test.YtckmkhcahnijmaaGreatDoorS
import Derived.Laws.RangeAny
import Derived.Laws.Runes
import Derived.Lib.OthersKept
import Derived.Lib.TrimU
namespace Go.Proofs.YtckmkhcahnijmaaGreatDoor
open Go.RowKit
set_option linter.unusedVariables false
set_option linter.unusedSimpArgs false

theorem quiet_add_same {P : Program} {f : FuncId} {args : Array Value} {w : World} {a n : Nat} {v : Value}
    (h : Calls P f args (w.drewN (a + n)) fun e w' => e = .returned v ∧ w' = w.drewN (a + n)) :
    Calls P f args (w.drewN (a + n)) fun e w'' => e = .returned v ∧ ∃ m, w'' = w.drewN (a + m) :=
  h.mono fun _ _ ⟨he, hm⟩ => ⟨he, n, hm⟩
def crlf : ByteArray := ⟨#[13, 10]⟩
set_option maxRecDepth 100000 in
set_option maxHeartbeats 2000000 in
theorem rune77_high (c : Int) (w : World) (h : 128 ≤ c) (h2 : c ≤ 1114111) :
    Calls Tryz.prog 77 #[.string ⟨#[13, 10]⟩, .int .i32 c] w fun e w' => e = .returned (.int .i64 (-1)) ∧ Below w.heap.size w w' := by
  have hz : decide ((0 : Int) ≤ c) = true := by simp; omega
  have hz2 : decide (c < (128 : Int)) = false := by simp; omega
  cases h3 : c == (65533 : Int)
  · cases hv : Lib.validRune c
    · go_enter Tryz.func77, Tryz.ntmps77
      go_wp2_with (first | (go_at_call 89; refine (Tryz.utf8_ValidRune _ _).mono ?_; rintro e w' ⟨rfl, rfl⟩))
      go_ret
      exact ⟨rfl, Below.refl _ _⟩
    · have hv2 : Utf8.valid c = true := by
        simp [Lib.validRune] at hv
        simp [Utf8.valid]
        omega
      obtain ⟨e1, e2, e3⟩ := encode_facts c hv2 h
      rcases Nat.lt_or_ge 2 (Utf8.encode c).size with hs | hs
      · clear e3
        go_enter Tryz.func77, Tryz.ntmps77
        go_wp2_with (first | (go_at_call 89; refine (Tryz.utf8_ValidRune _ _).mono ?_; rintro e w' ⟨rfl, rfl⟩))
        go_step3
        go_wp2_with fail
        refine wp_loop_rounds 1 ?_
        rw [rounds_succ]
        go_wp2_with fail
        rw [Exit.noGoto_ret]
        go_ret
        exact ⟨rfl, Below.refl _ _⟩
      · have es : (Utf8.encode c).size = 2 := by omega
        have e4 : ∀ (hh : 1 < (Utf8.encode c).size) (hh2 : 1 < (⟨#[13, 10]⟩ : ByteArray).size), ((((⟨#[13, 10]⟩ : ByteArray)[1]'hh2).toNat : Int) != ((Utf8.encode c)[1]'hh).toNat) = true := by
          intro hh hh2
          have := e3 (by omega)
          simp only [es] at this
          rw [bne_iff_ne]
          intro q
          have q2 : (10 : Int) = (((Utf8.encode c)[2 - 1]'(by omega)).toNat : Int) := q
          omega
        clear e3 e1 e2 hs
        have hx : ∀ (s : ByteArray) (b : Int) (W : World), s.size = 0 → Calls Tryz.prog 75 #[.string s, .int .u8 b] W fun e w' => e = .returned (.int .i64 (-1)) ∧ w' = W := fun s b W h => by
          have := Tryz.strings_IndexByte s b W
          rw [show s.data.toList = [] from List.eq_nil_of_length_eq_zero h] at this
          exact this
        go_enter Tryz.func77, Tryz.ntmps77
        go_wp2_with (first | (go_at_call 89; refine (Tryz.utf8_ValidRune _ _).mono ?_; rintro e w' ⟨rfl, rfl⟩))
        go_step3
        go_wp2_with fail
        refine wp_loop_rounds 1 ?_
        rw [rounds_succ]
        go_wp2_with fail
        go_step3
        go_upto_region 6 with fail
        go_quiet (fail)
        go_wp2_with fail
        go_upto_region 7 with fail
        go_quiet ((go_at_call 75; first | exact quiet_add_same (hx _ _ _ (by simp)) | exact Calls.quiet_of_same (hx _ _ _ (by simp))))
        go_wp2_with fail
        rw [Exit.noGoto_ret]
        go_wp2_with fail
        rw [Exit.noGoto_ret]
        go_ret
        exact ⟨rfl, below_drewN (Below.refl _ _) _⟩
  · have hn0 := run_next_ascii (P := Tryz.prog) w ⟨#[13, 10]⟩ 0
    have hn1 := run_next_ascii (P := Tryz.prog) w ⟨#[13, 10]⟩ 1
    have hn2 := run_next_end (P := Tryz.prog) w ⟨#[13, 10]⟩ 2
    have m0 := fun ty => hn0 ty (by decide) (by decide)
    have m1 := fun ty => hn1 ty (by decide) (by decide)
    have m2 := fun ty => hn2 ty (by decide)
    clear hn0 hn1 hn2
    go_enter Tryz.func77, Tryz.ntmps77
    go_wp2_with fail
    refine wp_loop_rounds 3 ?_
    rw [rounds_succ]
    go_wp2_with fail
    rw [rounds_succ]
    go_wp2_with fail
    rw [rounds_succ]
    go_wp2_with fail
    go_ret
    exact ⟨rfl, below_box _ _⟩

theorem hv123 (w : World) : (zeroValue 123).run Tryz.prog w = .ok (.agg (Array.replicate 256 (.bool false))) w := by kernel_rfl
theorem get_bang (s : ByteArray) (i : Nat) (h : i < s.size) : s.get! i = s[i]'h := by
  simp [ByteArray.get!, getElem!_pos, h]
  rfl
theorem noEnd_high {c : UInt8} {l : List UInt8} (h : 128 ≤ c.toNat) : noEnd (c :: l) = noEnd l := by
  rw [noEnd_cons]
  have h1 : (c != 10) = true := by rw [bne_iff_ne]; rintro rfl; simp at h
  have h2 : (c != 13) = true := by rw [bne_iff_ne]; rintro rfl; simp at h
  rw [h1, h2]; rfl
theorem noEnd_skip (s : ByteArray) (n : Nat) : ∀ pos, pos + n ≤ s.size → (∀ j (h : j < s.size), pos ≤ j → j < pos + n → 128 ≤ (s[j]'h).toNat) → noEnd (s.data.toList.drop pos) = noEnd (s.data.toList.drop (pos + n)) := by
  induction n with
  | zero => intro pos _ _; rfl
  | succ n ih =>
    intro pos h1 h2
    rw [drop_cons s pos (by omega), noEnd_high (h2 pos (by omega) (Nat.le_refl _) (by omega)), ih (pos + 1) (by omega) (fun j hj a b => h2 j hj (by omega) (by omega))]
    congr 2; omega
theorem cont_high {s : ByteArray} {i k : Nat} (h : (decide (i + k < s.size) && (s.get! (i + k)).toNat / 64 == 2) = true) : ∃ hk : i + k < s.size, 128 ≤ (s[i + k]'hk).toNat := by
  simp only [Bool.and_eq_true, decide_eq_true_eq, beq_iff_eq] at h
  obtain ⟨h1, h2⟩ := h
  refine ⟨h1, ?_⟩
  rw [get_bang s _ h1] at h2
  omega
theorem dec_span (s : ByteArray) (pos : Nat) (h : pos < s.size) (ha : 128 ≤ (s[pos]'h).toNat) :
    1 ≤ (Utf8.decode s pos).2 ∧ pos + (Utf8.decode s pos).2 ≤ s.size ∧ ∀ j (hj : j < s.size), pos ≤ j → j < pos + (Utf8.decode s pos).2 → 128 ≤ (s[j]'hj).toNat := by
  have one : ∀ r : Nat × Nat, r.2 = 1 → 1 ≤ r.2 ∧ pos + r.2 ≤ s.size ∧ ∀ j (hj : j < s.size), pos ≤ j → j < pos + r.2 → 128 ≤ (s[j]'hj).toNat := fun r hr => by
    rw [hr]; exact ⟨Nat.le_refl _, by omega, fun j hj a b => by obtain rfl : j = pos := by omega
                                                                exact ha⟩
  have hn : ¬ (s.get! (pos + 0)).toNat < 128 := by rw [Nat.add_zero, get_bang s pos h]; omega
  unfold Utf8.decode
  simp only [hn, if_false]
  split
  · rename_i h1
    simp only [Bool.and_eq_true] at h1
    obtain ⟨k1, b1⟩ := cont_high (s := s) (i := pos) (k := 1) (by simpa using h1.2)
    split
    · refine ⟨by simp, by simp; omega, fun j hj a b => ?_⟩
      simp only at b
      rcases Nat.lt_or_ge pos j with q | q
      · obtain rfl : j = pos + 1 := by omega
        exact b1
      · obtain rfl : j = pos := by omega
        exact ha
    · exact one _ rfl
  · split
    · rename_i h1
      simp only [Bool.and_eq_true] at h1
      obtain ⟨k1, b1⟩ := cont_high (s := s) (i := pos) (k := 1) (by simpa using h1.1.2)
      obtain ⟨k2, b2⟩ := cont_high (s := s) (i := pos) (k := 2) (by simpa using h1.2)
      split
      · refine ⟨by simp, by simp; omega, fun j hj a b => ?_⟩
        simp only at b
        have : j = pos ∨ j = pos + 1 ∨ j = pos + 2 := by omega
        rcases this with rfl | rfl | rfl
        · exact ha
        · exact b1
        · exact b2
      · exact one _ rfl
    · split
      · rename_i h1
        simp only [Bool.and_eq_true] at h1
        obtain ⟨k1, b1⟩ := cont_high (s := s) (i := pos) (k := 1) (by simpa using h1.1.1.2)
        obtain ⟨k2, b2⟩ := cont_high (s := s) (i := pos) (k := 2) (by simpa using h1.1.2)
        obtain ⟨k3, b3⟩ := cont_high (s := s) (i := pos) (k := 3) (by simpa using h1.2)
        split
        · refine ⟨by simp, by simp; omega, fun j hj a b => ?_⟩
          simp only at b
          have : j = pos ∨ j = pos + 1 ∨ j = pos + 2 ∨ j = pos + 3 := by omega
          rcases this with rfl | rfl | rfl | rfl
          · exact ha
          · exact b1
          · exact b2
          · exact b3
        · exact one _ rfl
      · exact one _ rfl
theorem below_iterAt {B : Nat} {a w : World} (h : Below B a w) {k : Nat} (hk : B ≤ k) (s : ByteArray) (p : Nat) : Below B a (w.iterAt k s p) :=
  h.trans ⟨rfl, rfl, rfl, by simp [World.iterAt], fun i hi => by simp [World.iterAt, Array.getElem?_setIfInBounds]; omega⟩

def crlfB (c : UInt8) : Bool := c == 10 || c == 13
theorem rune77_low (c : UInt8) (w : World) (hc : c.toNat < 128) :
    Calls Tryz.prog 77 #[.string ⟨#[13, 10]⟩, .int .i32 c.toNat] w fun e w' => ∃ z : Int, e = .returned (.int .i64 z) ∧ decide (0 ≤ z) = crlfB c ∧ w' = w :=
  (Tryz.strings_IndexRune_ascii ⟨#[13, 10]⟩ c.toNat w (by omega) (by omega)).mono fun e w' ⟨he, hw⟩ => ⟨_, he, by
    have hb : ((c.toNat : Int)).toNat.toUInt8 = c := by simp
    rw [hb, ← Lib.contains_iff_indexByte]
    show (c == 13 || (c == 10 || false)) = (c == 10 || c == 13)
    cases c == 13 <;> cases c == 10 <;> rfl, hw⟩
theorem noEnd_hit {c : UInt8} {l : List UInt8} (h : crlfB c = true) : noEnd (c :: l) = false := by
  rw [noEnd_cons]; simp only [crlfB, Bool.or_eq_true, beq_iff_eq] at h
  rcases h with rfl | rfl <;> rfl
theorem noEnd_miss {c : UInt8} {l : List UInt8} (h : crlfB c = false) : noEnd (c :: l) = noEnd l := by
  rw [noEnd_cons]; simp only [crlfB, Bool.or_eq_false_iff] at h
  simp [bne, h.1, h.2]
set_option maxRecDepth 100000 in
set_option maxHeartbeats 2000000 in
theorem index70_short (s : ByteArray) (w : World) (h8 : s.size ≤ 8) :
    Calls Tryz.prog 70 #[.string s, .string ⟨#[13, 10]⟩] w fun e w' => ∃ z : Int, e = .returned (.int .i64 z) ∧ (decide (0 ≤ z) = !noEnd s.data.toList) ∧ Below w.heap.size w w' := by
  go_enter Tryz.func70, Tryz.ntmps70
  go_wp2_with (first | (go_at_call 78; refine (Tryz.strings_shouldUseASCIISet _ _).mono ?_; rintro e w' ⟨rfl, hw⟩; rw [hw]))
  go_loopg [9, 10] s.size (fun g _ _ wx => ∃ i : Nat, i + g = s.size ∧ wx.heap[w.heap.size]? = some (.stringIter s i) ∧ Below w.heap.size w wx ∧ noEnd s.data.toList = noEnd (s.data.toList.drop i)) 
  case atStart => exact ⟨0, by omega, by simp [World.iter_heap], below_box _ _, by simp⟩
  case round =>
    obtain ⟨i, hig, hit, hb, hno⟩ := hrel
    have HN := Lib.hid hno; clear hno
    have HIT := Lib.hid hit; clear hit
    by_cases hlt : i < s.size
    · have HD := Lib.hid (drop_cons s i hlt)
      have hsz : w.heap.size < wr.heap.size := (Array.getElem?_eq_some_iff.1 HIT.out).1
      by_cases ha : (s[i]'hlt).toNat < 128
      · have hnx := fun ty => Lib.run_next_ascii_at (P := Tryz.prog) _ w.heap.size s i ty HIT.out hlt ha
        have HI2 := Lib.hid (Lib.iterAt_heap _ w.heap.size s i (i + 1) HIT.out)
        cases hcr : crlfB s[i]
        · go_wp2_with (go_at_call 77; refine (rune77_low _ _ ha).mono ?_; rintro e w' ⟨z, rfl, hz, rfl⟩; rw [hcr] at hz; have hz' : ¬ 0 ≤ z := of_decide_eq_false hz)
          go_roundg (gk - 1)
          case measure => omega
          case rel => exact ⟨i + 1, by omega, HI2.out, below_iterAt hb (Nat.le_refl _) _ _, by rw [HN.out, HD.out, noEnd_miss hcr]⟩
        · go_wp2_with (go_at_call 77; refine (rune77_low _ _ ha).mono ?_; rintro e w' ⟨z, rfl, hz, rfl⟩; rw [hcr] at hz; have hz' : 0 ≤ z := of_decide_eq_true hz)
          go_ret
          exact ⟨i, rfl, by rw [HN.out, HD.out, noEnd_hit hcr]; simp, below_iterAt hb (Nat.le_refl _) _ _⟩
      · have hnx := fun ty => Lib.run_next_any_at (P := Tryz.prog) _ w.heap.size s i ty HIT.out hlt
        obtain ⟨d1, d2, d3⟩ := dec_span s i hlt (by omega)
        have hd1 := (decode_high s i hlt (by omega)).1
        have hd2 := Lib.rune_le s i
        have HI2 := Lib.hid (Lib.iterAt_heap _ w.heap.size s i (i + (Utf8.decode s i).2) HIT.out)
        have HS := Lib.hid (noEnd_skip s _ i d2 d3)
        clear d3
        go_wp2_with (go_at_call 77; refine (rune77_high _ _ (by omega) (by omega)).mono ?_; rintro e w' ⟨rfl, hb2⟩)
        go_roundg (s.size - (i + (Utf8.decode s i).2))
        case measure => omega
        case rel =>
          have hbi := below_iterAt (k := w.heap.size) hb (Nat.le_refl _) s (i + (Utf8.decode s i).2)
          exact ⟨i + (Utf8.decode s i).2, by omega, (hb2.block _ (by simp [World.iterAt]; omega)).trans HI2.out, keep_below hbi hb2 hbi.size, by rw [HN.out, HS.out]⟩
    · have hnx := fun ty => Lib.run_next_end_at (P := Tryz.prog) _ w.heap.size s i ty HIT.out hlt
      go_wp2_with fail
      go_ret
      exact ⟨-1, rfl, by rw [HN.out, List.drop_of_length_le (by rw [L_len]; omega)]; rfl, hb⟩
end Go.Proofs.YtckmkhcahnijmaaGreatDoor
