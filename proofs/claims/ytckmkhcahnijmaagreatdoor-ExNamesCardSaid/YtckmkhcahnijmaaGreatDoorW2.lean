/- The walks of the statements' own functions: Short; of the reference: Right. -/
import Derived.Test.YtckmkhcahnijmaaGreatDoorW1
import Derived.Test.YtckmkhcahnijmaaGreatDoorV9
namespace Go.Proofs.YtckmkhcahnijmaaGreatDoor
open Go.RowKit
set_option linter.unusedVariables false
set_option linter.unusedSimpArgs false

def cutB (s : ByteArray) (n : Nat) : ByteArray := bs (s.data.toList.take n)
def shortL (x : Ln) : Ln := ⟨x.nm, x.n, x.bys.take 6, ⟨x.t.col, x.t.op, cutB x.t.arg 110, x.t.nt⟩, x.has, x.whole, x.each, cutB x.pat 110, cutB x.wth 110⟩
theorem cutB_size (s : ByteArray) (n : Nat) : (cutB s n).size ≤ n := by rw [cutB, bs_size, List.length_take]; omega
theorem short_small (x : Ln) : (shortL x).bys.length ≤ 6 ∧ (shortL x).t.arg.size ≤ 110 ∧ (shortL x).pat.size ≤ 110 ∧ (shortL x).wth.size ≤ 110 :=
  ⟨by simp [shortL]; omega, cutB_size _ _, cutB_size _ _, cutB_size _ _⟩
theorem RB.take {w : World} {A : Option Addr} {l : List (Int × Bool)} (h : RB w A l) (n : Nat) : RB w A (l.take n) := fun j hj => by
  have hj' : j < l.length := by rw [List.length_take] at hj; omega
  obtain ⟨b, off, e, h1, h2⟩ := h j hj'
  exact ⟨b, off, e, by rw [List.getElem_take]; exact h1, by rw [List.getElem_take]; exact h2⟩

set_option maxRecDepth 100000 in
set_option maxHeartbeats 2000000 in
theorem short_any (A : Option Addr) (c : Nat) (x : Ln) (w : World) (hl : x.bys.length ≤ c) :
    Calls Tryz.prog 7 #[vL A c x] w fun e w' => e = .returned (vL A c (shortL x)) ∧ Below w.heap.size w w' := by
  generalize hv : vL A c (shortL x) = v
  have HV := Lib.hid hv; clear hv
  obtain ⟨nm, n, l, ⟨col, op, arg, nt⟩, has, whole, each, pat, wth⟩ := x
  unfold vL
  simp only at *
  have h1 : ∀ W, Calls Tryz.prog 17 #[.string pat, .int .i64 110] W fun e w' => e = .returned (.string (cutB pat 110)) ∧ W = w' := fun W => cut_any pat 110 W (by omega)
  have h2 : ∀ W, Calls Tryz.prog 17 #[.string wth, .int .i64 110] W fun e w' => e = .returned (.string (cutB wth 110)) ∧ W = w' := fun W => cut_any wth 110 W (by omega)
  have h3 : ∀ W, Calls Tryz.prog 17 #[.string arg, .int .i64 110] W fun e w' => e = .returned (.string (cutB arg 110)) ∧ W = w' := fun W => cut_any arg 110 W (by omega)
  by_cases hlt : 6 < l.length
  · have hlen : (l.take 6).length = 6 := by simp; omega
    have h6 : (6 : Int) ≤ c := by omega
    go_enter Tryz.func7, Tryz.ntmps7
    go_wp2_with (first | (go_at_call 17; (with_reducible refine (h1 _).mono ?_); rintro e w2 ⟨rfl, rfl⟩) | (go_at_call 17; (with_reducible refine (h2 _).mono ?_); rintro e w2 ⟨rfl, rfl⟩) | (go_at_call 17; (with_reducible refine (h3 _).mono ?_); rintro e w2 ⟨rfl, rfl⟩))
    refine bodyPost_ret (v := v) ?_ rfl ⟨rfl, below_box2 _ _ _⟩
    rw [← HV.out]
    simp [results, Tryz.results7, go_sem, vL, shortL, hlen, cutB]
    try omega
  · have hlen : l.take 6 = l := List.take_of_length_le (by omega)
    go_enter Tryz.func7, Tryz.ntmps7
    go_wp2_with (first | (go_at_call 17; (with_reducible refine (h1 _).mono ?_); rintro e w2 ⟨rfl, rfl⟩) | (go_at_call 17; (with_reducible refine (h2 _).mono ?_); rintro e w2 ⟨rfl, rfl⟩) | (go_at_call 17; (with_reducible refine (h3 _).mono ?_); rintro e w2 ⟨rfl, rfl⟩))
    refine bodyPost_ret (v := v) ?_ rfl ⟨rfl, below_box2 _ _ _⟩
    rw [← HV.out]
    simp [results, Tryz.results7, go_sem, vL, shortL, hlen, cutB]
    try omega

theorem rtext_fit (A : Option Addr) (c : Nat) (x : Ln) (w : World) (hf : Fit x) (hr : RB w A x.bys) (hs : x.t.arg.size ≤ 65536) (hp : x.pat.size ≤ 1000) (hq : x.wth.size ≤ 1000) :
    Calls Tryz.prog 9 #[vL A c x] w fun e w' => e = .returned (.string (bs (rText x))) ∧ Below w.heap.size w w' := by
  cases hf with
  | none => exact rtextW A c zL w (by decide) (by decide) (by decide) (by decide) (by decide) rfl (fun h => by rcases h with h | h | h <;> cases h) hs hr
  | goto n h1 h2 => exact rtext1 A c _ w rfl (by simp only [lN]; omega) (by simp only [lN]; omega)
  | sort l h =>
    obtain ⟨h3, h4⟩ := bysOk_all' h
    exact rtextW A c _ w (by simp [lS]) (by simp [lS]) (by simp [lS]) (by simp [lS]) h4 h3 (fun h => by simp only [lS] at h; omega) hs hr
  | test k t hk h => exact rtextW A c _ w (by simp only [lT]; omega) (by simp only [lT]; omega) (by simp only [lT]; omega) (by simp only [lT]; omega) (by simp [lT]) rfl (fun h => by simp only [lT] at h; omega) hs hr
  | bare k hk => exact rtextW A c _ w (by simp only [lW]; omega) (by simp only [lW]; omega) (by simp only [lW]; omega) (by simp only [lW]; omega) (by simp [lW]) rfl (fun h => by simp only [lW] at h; omega) hs hr
  | num k n h => exact rtextW A c _ w (by simp only [lN]; omega) (by simp only [lN]; omega) (by simp only [lN]; omega) (by simp only [lN]; omega) (by simp [lN]) rfl (fun h => by simp only [lN] at h ⊢; omega) hs hr
  | subst whole each pat wth hp' h1 h2 => exact rtext7 A c _ w rfl hp hq
def rRight (x : Ln) : Bool := rFits x && decide ((rText x).length ≤ 100)
theorem right_eq (x : Ln) : pRight x = rRight x := by
  rw [pRight, rRight, pok_eq]
  cases h : rFits x with
  | false => rfl
  | true => rw [ptext_eq (rfits_fit h)]
theorem print_eq (x : Ln) : pPrint x = if rRight x then rText x else [] := by
  rw [pPrint, right_eq]
  split
  · rename_i h
    rw [rRight, Bool.and_eq_true] at h
    rw [ptext_eq (rfits_fit h.1)]
  · rfl

set_option maxRecDepth 100000 in
set_option maxHeartbeats 2000000 in
theorem rright_any (A : Option Addr) (c : Nat) (x : Ln) (w : World) (hl : x.bys.length ≤ 65536) (hr : RB w A x.bys) (hs : x.t.arg.size ≤ 65536) (hp : x.pat.size ≤ 1000) (hq : x.wth.size ≤ 1000) :
    Calls Tryz.prog 8 #[vL A c x] w fun e w' => e = .returned (.bool (rRight x)) ∧ Below w.heap.size w w' := by
  have hft := fun W h => rfits_any A c x W hl h hs (by omega) (by omega)
  have htx : rFits x = true → ∀ W, RB W A x.bys → Calls Tryz.prog 9 #[vL A c x] W fun e w' => e = .returned (.string (bs (rText x))) ∧ Below W.heap.size W w' := fun h W hr => rtext_fit A c x W (rfits_fit h) hr hs hp hq
  have hbx : Below w.heap.size w (w.alloc (.cells (vL A c x).cells 26)) := below_box _ _
  have HR1 := Lib.hid (hr.keep hbx)
  have hP : rRight x = (rFits x && decide ((rText x).length ≤ 100)) := rfl
  clear hr
  generalize rRight x = P at *
  generalize rFits x = R at *
  have hts : (bs (rText x)).size = (rText x).length := rfl
  generalize rText x = tx at *
  have HP := Lib.hid hP; clear hP
  obtain ⟨nm, n, l, ⟨col, op, arg, nt⟩, has, whole, each, pat, wth⟩ := x
  have HB0 : Hid (Box w.heap.size 26 A c ⟨nm, n, l, ⟨col, op, arg, nt⟩, has, whole, each, pat, wth⟩ (w.alloc (.cells #[.int .i64 nm, .int .i64 n, .slice A l.length c, .int .i64 col, .int .i64 op, .string arg, .bool nt, .bool has, .bool whole, .bool each, .string pat, .string wth] 26))) :=
    Lib.hid (by unfold Box; simp [go_sem])
  unfold vL at *
  simp only at *
  cases R
  · go_enter Tryz.func8, Tryz.ntmps8
    go_wp2_with (first | (go_at_call 22; refine (hft _ HR1.out).mono ?_; rintro e w2 ⟨rfl, hb2⟩))
    go_ret
    exact ⟨ret_bool (by rw [HP.out]; rfl), keep_below hbx hb2 (by simp)⟩
  · have htx' := htx rfl
    clear htx
    go_enter Tryz.func8, Tryz.ntmps8
    go_wp2_with (first | (go_at_call 22; refine (hft _ HR1.out).mono ?_; rintro e w2 ⟨rfl, hb2⟩; obtain ⟨k0, k1, k2, k3, k4, k5, k6, k7, k8, k9, k10, k11⟩ := HB0.out.keep hb2; simp only at k0 k1 k2 k3 k4 k5 k6 k7 k8 k9 k10 k11) | (go_at_call 9; refine (htx' _ (HR1.out.keep hb2)).mono ?_; rintro e w3 ⟨rfl, hb3⟩))
    go_ret
    have b2 := keep_below hbx hb2 (by simp)
    refine ⟨ret_bool ?_, keep_below b2 hb3 b2.size⟩
    rw [HP.out]
    first | rfl | (go_light; simp; omega)
end Go.Proofs.YtckmkhcahnijmaaGreatDoor
