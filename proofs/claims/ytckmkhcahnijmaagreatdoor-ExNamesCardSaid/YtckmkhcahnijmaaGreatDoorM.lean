/- The walks of the program: keys to sort by, digits, numbered names (order.Right, ex.keyed, num.digit, ex.numbered). -/
import Derived.Test.YtckmkhcahnijmaaGreatDoorJ
namespace Go.Proofs.YtckmkhcahnijmaaGreatDoor
open Go.RowKit
set_option linter.unusedVariables false
set_option linter.unusedSimpArgs false

set_option maxHeartbeats 1000000 in
theorem f68_any (a : Int) (b : Bool) (w : World) :
    Calls Tryz.prog 68 #[.agg #[.int .i64 a, .bool b]] w fun e w' => e = .returned (.bool (!keyOk (a, b))) ∧ Below w.heap.size w w' := by
  generalize hk : (!keyOk (a, b)) = q
  have HK := Lib.hid hk; clear hk
  go_enter Tryz.func68, Tryz.ntmps68
  go_wp2
  all_goals
    go_ret
    refine ⟨ret_bool ?_, below_box _ _⟩
    rw [← HK.out]
    go_light
    rw [Bool.eq_iff_iff]
    simp [keyOk]
    omega

set_option maxRecDepth 100000 in
set_option maxHeartbeats 1000000 in
theorem index68_any (A : Option Addr) (c : Nat) (l : List (Int × Bool)) (w : World) (hl : l.length ≤ 65536) (hr : RB w A l) :
    Calls Tryz.prog 76 #[.slice A l.length c, .func (.func 68) #[] #[]] w fun e w' => ∃ z : Int, e = .returned (.int .i64 z) ∧ (decide (0 ≤ z) = !l.all keyOk) ∧ Below w.heap.size w w' := by
  have HR := Lib.hid hr; clear hr
  go_enter Tryz.func76, Tryz.ntmps76
  go_wp2
  go_loopw [5, 8] (fun _ i wr => ∃ k : Nat, k ≤ l.length ∧ i = .int .i64 k ∧ l.all keyOk = (l.drop k).all keyOk ∧ Below w.heap.size w wr) (fun _ i _ => l.length - (intOf i).toNat)
  case atStart => exact ⟨0, by omega, rfl, by simp, Below.refl _ _⟩
  case round =>
    obtain ⟨k, hk, rfl, hq, hb⟩ := hrel
    have HQ := Lib.hid hq; clear hq
    by_cases hlt : k < l.length
    · obtain ⟨b, off, HA, h1, h2⟩ := (HR.out.keep hb) k hlt
      subst HA
      have HD := Lib.hid (List.drop_eq_getElem_cons hlt)
      cases hok : keyOk (l[k].1, l[k].2)
      · have HOK := Lib.hid (show keyOk l[k] = false from hok)
        go_wp2_with (go_at_call 68; refine (f68_any _ _ _).mono ?_; rintro e w2 ⟨rfl, hb2⟩)
        go_ret
        exact ⟨k, rfl, by rw [HQ.out, HD.out, List.all_cons, HOK.out]; simp, keep_below hb hb2 hb.size⟩
      · have HOK := Lib.hid (show keyOk l[k] = true from hok)
        go_wp2_with (go_at_call 68; refine (f68_any _ _ _).mono ?_; rintro e w2 ⟨rfl, hb2⟩)
        go_roundw
        case rel => exact ⟨k + 1, by omega, by go_num, by rw [HQ.out, HD.out, List.all_cons, HOK.out]; rfl, keep_below hb hb2 hb.size⟩
        case measure => simp [intOf]; omega
    · have HN := Lib.hid (show l.drop k = [] from List.drop_of_length_le (by omega))
      go_wp2
      go_ret
      exact ⟨-1, rfl, by rw [HQ.out, HN.out]; rfl, hb⟩
set_option maxHeartbeats 1000000 in
theorem has68_any (A : Option Addr) (c : Nat) (l : List (Int × Bool)) (w : World) (hl : l.length ≤ 65536) (hr : RB w A l) :
    Calls Tryz.prog 69 #[.slice A l.length c, .func (.func 68) #[] #[]] w fun e w' => e = .returned (.bool (!l.all keyOk)) ∧ Below w.heap.size w w' := by
  have hi := index68_any A c l w hl hr
  generalize hk : (!l.all keyOk) = q at *
  clear hk hr
  go_enter Tryz.func69, Tryz.ntmps69
  go_wp2_with (go_at_call 76; refine hi.mono ?_; rintro e w2 ⟨z, rfl, hz, hb2⟩; have HZ := Lib.hid hz; clear hz)
  go_ret
  exact ⟨ret_bool HZ.out, hb2⟩
set_option maxHeartbeats 1000000 in
theorem oright_any (A : Option Addr) (c : Nat) (l : List (Int × Bool)) (w : World) (hl : l.length ≤ 65536) (hr : RB w A l) :
    Calls Tryz.prog 57 #[.slice A l.length c] w fun e w' => e = .returned (.bool (l.all keyOk && decide (0 < l.length))) ∧ Below w.heap.size w w' := by
  have hi := has68_any A c l w hl hr
  by_cases h0 : 0 < l.length
  · go_enter Tryz.func57, Tryz.ntmps57
    go_wp2_with (go_at_call 69; refine hi.mono ?_; rintro e w2 ⟨rfl, hb2⟩)
    go_ret
    exact ⟨ret_bool (by simp [h0]), hb2⟩
  · go_enter Tryz.func57, Tryz.ntmps57
    go_wp2_with fail
    go_ret
    exact ⟨ret_bool (by simp [h0]), Below.refl _ _⟩
set_option maxHeartbeats 1000000 in
theorem keyed_any (A : Option Addr) (c : Nat) (l : List (Int × Bool)) (w : World) (hl : l.length ≤ 65536) (hr : RB w A l) :
    Calls Tryz.prog 41 #[.slice A l.length c] w fun e w' => e = .returned (.bool (bysOk l)) ∧ Below w.heap.size w w' := by
  have hi := oright_any A c l w hl hr
  have HR := Lib.hid hr; clear hr
  by_cases h0 : l.length = 0
  · have HN := Lib.hid (show l = [] from List.eq_nil_of_length_eq_zero h0)
    have e0 : ((l.length : Int) == 0) = true := by simpa using h0
    clear h0 hi
    go_enter Tryz.func41, Tryz.ntmps41
    go_wp2_with fail
    go_ret
    exact ⟨ret_bool (by rw [HN.out]; rfl), Below.refl _ _⟩
  · have e0 : ((l.length : Int) == 0) = false := by rw [beq_eq_false_iff_ne]; omega
    by_cases h4 : l.length ≤ 4
    · go_enter Tryz.func41, Tryz.ntmps41
      go_wp2_with (go_at_call 57; refine hi.mono ?_; rintro e w2 ⟨rfl, hb2⟩)
      go_ret
      refine ⟨ret_bool ?_, hb2⟩
      rw [bysOk, show decide (l.length ≤ 4) = true from decide_eq_true h4]
      have h1 : 0 < l.length := by omega
      simp [h1]
      try omega
    · go_enter Tryz.func41, Tryz.ntmps41
      go_wp2_with fail
      go_ret
      exact ⟨ret_bool (by rw [bysOk, show decide (l.length ≤ 4) = false from decide_eq_false h4]; rfl), Below.refl _ _⟩

theorem u64_eq {a b : Int} (h : a = b) : Value.int .u64 a = Value.int .u64 b := by rw [h]
def pdigV (c : UInt8) : Int := if dig c then ((c.toNat - 48 : Nat) : Int) else 0
set_option maxHeartbeats 1000000 in
theorem pdigit_any (c : UInt8) (w : World) :
    Calls Tryz.prog 63 #[.int .u8 c.toNat] w fun e w' => e = .returned (.tuple #[.int .u64 (pdigV c), .bool (dig c)]) ∧ w = w' := by
  generalize hv : pdigV c = v
  generalize hd : dig c = d
  have HV := Lib.hid hv; clear hv
  have HD := Lib.hid hd; clear hd
  go_enter Tryz.func63, Tryz.ntmps63
  by_cases h1 : 48 ≤ c.toNat ∧ c.toNat ≤ 57
  · obtain ⟨h1, h2⟩ := h1
    have e2 : dig c = true := by simp [dig]; omega
    have E2 := Lib.hid e2; clear e2
    go_wp2
    go_ret2
    exact ⟨ret_2 (u64_eq (by rw [← HV.out, pdigV, if_pos E2.out]; go_light; omega)) (bool_eq (by rw [← HD.out, E2.out])), rfl⟩
  · have e2 : dig c = false := by simp [dig]; omega
    have E2 := Lib.hid e2; clear e2
    by_cases h3 : c.toNat < 48
    all_goals
      go_wp2
      go_ret2
      exact ⟨ret_2 (u64_eq (by rw [← HV.out, pdigV, if_neg (by rw [E2.out]; simp)])) (bool_eq (by rw [← HD.out, E2.out])), rfl⟩

def numLo (nm : Int) : Int := if nm = 1 ∨ nm = 6 ∨ nm = 5 then 1 else 0
def numHi (nm : Int) : Int := if nm = 1 ∨ nm = 6 then 400 else if nm = 5 then 40 else if nm = 13 then 2147483647 else 0
theorem ret_3 {a b c a' b' c' : Value} (h : a = a') (h2 : b = b') (h3 : c = c') : Ending.returned (.tuple #[a, b, c]) = .returned (.tuple #[a', b', c']) := by rw [h, h2, h3]
set_option maxHeartbeats 1000000 in
theorem numbered_any (nm : Int) (w : World) :
    Calls Tryz.prog 40 #[.int .i64 nm] w fun e w' => e = .returned (.tuple #[.int .i64 (numLo nm), .int .i64 (numHi nm), .bool (isNum nm)]) ∧ w = w' := by
  generalize h1 : numLo nm = q1
  generalize h2 : numHi nm = q2
  generalize h3 : isNum nm = q3
  have H1 := Lib.hid h1; have H2 := Lib.hid h2; have H3 := Lib.hid h3; clear h1 h2 h3
  go_enter Tryz.func40, Tryz.ntmps40
  go_wp2
  all_goals
    go_ret3
    refine ⟨ret_3 (int_eq ?_) (int_eq ?_) (bool_eq ?_), rfl⟩
    · rw [← H1.out]; go_light; simp_all [numLo]
    · rw [← H2.out]; go_light; simp_all [numHi]
    · rw [← H3.out]; go_light; simp_all [isNum]

end Go.Proofs.YtckmkhcahnijmaaGreatDoor
