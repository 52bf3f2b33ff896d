/- The walk of the program: ex.read. -/
import Derived.Test.YtckmkhcahnijmaaGreatDoorV6
namespace Go.Proofs.YtckmkhcahnijmaaGreatDoor
open Go.RowKit
set_option linter.unusedVariables false
set_option linter.unusedSimpArgs false

theorem hd_index : ∀ L : List UInt8, (Lib.index L [32] = -1 ∧ hd L = L.length) ∨ Lib.index L [32] = hd L
  | [] => .inl ⟨by simp [Lib.index], rfl⟩
  | b :: l => by
    by_cases h : b = 32
    · subst h
      exact .inr (by rw [Lib.index]; simp [List.isPrefixOf]; rfl)
    · have hp : ([32] : List UInt8).isPrefixOf (b :: l) = false := by simp [List.isPrefixOf, Ne.symm h]
      have hix : Lib.index (b :: l) [32] = if Lib.index l [32] == -1 then -1 else Lib.index l [32] + 1 := by rw [Lib.index, hp]; simp
      rw [hd_go (by simpa using h), hix]
      rcases hd_index l with ⟨h1, h2⟩ | h1
      · exact .inl ⟨by rw [h1]; rfl, by rw [h2]; rfl⟩
      · refine .inr ?_
        rw [h1, if_neg (by rw [beq_iff_eq]; omega)]; omega
theorem cut_head (L : List UInt8) : (Lib.cut L [32]).1 = L.take (hd L) := by
  unfold Lib.cut
  rcases hd_index L with ⟨h1, h2⟩ | h1
  · rw [if_neg (by rw [h1]; omega), h2, List.take_length]
  · rw [if_pos (by rw [h1]; omega), h1]; simp
theorem cut51 (s : ByteArray) (m : Int) (w : World) (hs : s.size ≤ 65536) (hm : w.cell? ⟨0, 0, none⟩ = some (.int .i64 m)) :
    Calls Tryz.prog 51 #[.string s, .string ⟨#[32]⟩] w fun e w' => ∃ (r : ByteArray) (d : Bool) (n : Nat), e = .returned (.tuple #[.string (bs (s.data.toList.take (hd s.data.toList))), .string r, .bool d]) ∧ w' = w.drewN n := by
  refine (Tryz.strings_Cut s ⟨#[32]⟩ m w (by omega) hm).mono fun e w' ⟨he, n, hw⟩ => ⟨bs (Lib.cut s.data.toList [32]).2.1, (Lib.cut s.data.toList [32]).2.2, n, ?_, hw⟩
  rw [he]
  have e1 : (⟨#[32]⟩ : ByteArray).data.toList = [32] := rfl
  rw [e1, cut_head]
  rfl
def ReadPost (x : Ln) (full : List UInt8) (ok : Bool) (w : World) (e : Ending) (w' : World) : Prop :=
  ∃ A c, e = .returned (.tuple #[vL A c x, .string (bs full), .bool ok]) ∧ RB w' A x.bys ∧ (∀ g off, A = some ⟨g, off, none⟩ → w.heap.size ≤ g) ∧ Below w.heap.size w w'
theorem argued_any (k : Nat) (s : ByteArray) (m : Int) (w : World) (hs : s.size ≤ 60000) (hm : w.cell? ⟨0, 0, none⟩ = some (.int .i64 m)) : Calls Tryz.prog 52 #[.int .i64 k, .string s] w (ArgPost (pArg k s.data.toList) w) := by
  by_cases h2 : k = 2
  · subst h2; exact argued2 s m w hs hm
  · by_cases h3 : k = 3 ∨ k = 4
    · exact arguedF k s w h3 hs
    · exact arguedN k s w ⟨h2, by omega, by omega⟩ hs

set_option maxRecDepth 100000 in
set_option maxHeartbeats 2000000 in
theorem read1 (s : ByteArray) (w : World) (hs : s.size ≤ 60000) (h1 : isSub s.data.toList = true) : Calls Tryz.prog 29 #[.string s] w (ReadPost (pRead s.data.toList).1 (pRead s.data.toList).2.1 (pRead s.data.toList).2.2 w) := by
  have hR : pRead s.data.toList = (pSub (Lib.trimPrefix (Lib.trimPrefix s.data.toList [37]) [115, 47]) (Lib.hasPrefix s.data.toList [37]), s.data.toList, true) := by rw [pRead, if_pos h1]
  rw [hR]
  have hc1 := fun W => cutPrefix_any s ⟨#[37]⟩ W
  have e37 : (⟨#[37]⟩ : ByteArray).data.toList = [37] := rfl
  rw [e37] at hc1
  have hc2 := fun W => cutPrefix_any (bs (Lib.trimPrefix s.data.toList [37])) ⟨#[115, 47]⟩ W
  have e115 : (⟨#[115, 47]⟩ : ByteArray).data.toList = [115, 47] := rfl
  rw [e115, bs_L] at hc2
  have h1' : Lib.hasPrefix (Lib.trimPrefix s.data.toList [37]) [115, 47] = true := h1
  rw [h1'] at hc2
  have l1 := trim_len s.data.toList [37]
  have l2 := trim_len (Lib.trimPrefix s.data.toList [37]) [115, 47]
  rw [L_len] at l1
  clear hR h1 h1' e37 e115
  generalize Lib.trimPrefix s.data.toList [37] = r at *
  generalize Lib.trimPrefix r [115, 47] = q at *
  generalize Lib.hasPrefix s.data.toList [37] = d at *
  have hsb := fun W => subst_any (bs q) d W (by rw [bs_size]; omega)
  rw [bs_L] at hsb
  simp only
  have hby : (pSub q d).bys = [] := by unfold pSub; split <;> rfl
  have HBY := Lib.hid hby; clear hby
  generalize hx : pSub q d = x at *
  clear hx
  obtain ⟨nm, n, l, ⟨col, op, arg, nt⟩, has, whole, each, pat, wth⟩ := x
  obtain rfl : l = [] := HBY.out
  unfold vL at hsb
  simp only [List.length_nil] at hsb
  generalize hv : Value.tuple #[vL none 0 ⟨nm, n, [], ⟨col, op, arg, nt⟩, has, whole, each, pat, wth⟩, .string (bs s.data.toList), .bool true] = v
  have HV := Lib.hid hv; clear hv
  go_enter Tryz.func29, Tryz.ntmps29
  go_wp2_with (first | (go_at_call 48; (with_reducible refine (hc1 _).mono ?_); rintro e w2 ⟨rfl, rfl⟩) | (go_at_call 48; (with_reducible refine (hc2 _).mono ?_); rintro e w2 ⟨rfl, rfl⟩) | (go_at_call 49; (with_reducible refine (hsb _).mono ?_); rintro e w2 ⟨rfl, hb2⟩; obtain ⟨hc, hf⟩ := bcell hb2; have a0 : w2.cell? ⟨w.heap.size, 0, none⟩ = some (.int .i64 0) := (hc _ _ (by simp)).trans (by simp [go_sem]); have a1 : w2.cell? ⟨w.heap.size, 1, none⟩ = some (.int .i64 0) := (hc _ _ (by simp)).trans (by simp [go_sem]); have a2 : w2.cell? ⟨w.heap.size, 2, none⟩ = some (.slice none 0 0) := (hc _ _ (by simp)).trans (by simp [go_sem]); have a3 : w2.cell? ⟨w.heap.size, 3, none⟩ = some (.int .i64 0) := (hc _ _ (by simp)).trans (by simp [go_sem]); have a4 : w2.cell? ⟨w.heap.size, 4, none⟩ = some (.int .i64 0) := (hc _ _ (by simp)).trans (by simp [go_sem]); have a5 : w2.cell? ⟨w.heap.size, 5, none⟩ = some (.string ⟨#[]⟩) := (hc _ _ (by simp)).trans (by simp [go_sem]); have a6 : w2.cell? ⟨w.heap.size, 6, none⟩ = some (.bool false) := (hc _ _ (by simp)).trans (by simp [go_sem]); have a7 : w2.cell? ⟨w.heap.size, 7, none⟩ = some (.bool false) := (hc _ _ (by simp)).trans (by simp [go_sem]); have a8 : w2.cell? ⟨w.heap.size, 8, none⟩ = some (.bool false) := (hc _ _ (by simp)).trans (by simp [go_sem]); have a9 : w2.cell? ⟨w.heap.size, 9, none⟩ = some (.bool false) := (hc _ _ (by simp)).trans (by simp [go_sem]); have a10 : w2.cell? ⟨w.heap.size, 10, none⟩ = some (.string ⟨#[]⟩) := (hc _ _ (by simp)).trans (by simp [go_sem]); have a11 : w2.cell? ⟨w.heap.size, 11, none⟩ = some (.string ⟨#[]⟩) := (hc _ _ (by simp)).trans (by simp [go_sem]); have fa : ∀ o, w2.frozen? ⟨w.heap.size, o, none⟩ = false := fun o => (hf _ _ (by simp)).trans (by simp [go_sem]); clear hc hf))
  refine bodyPost_ret (v := v) ?_ rfl ⟨none, 0, ?_, ?_, (fun g off h => by cases h), ?_⟩
  · rw [← HV.out]
    simp [results, Tryz.results29, go_sem, vL, bs_of, a0, a1, a2, a3, a4, a5, a6, a7, a8, a9, a10, a11, fa]
  · rw [HV.out]
  · exact RB.nil _ _
  · (iterate 12 (refine below_set ?_ (Nat.le_refl _))); exact keep_below (below_box w _) hb2 (by simp)

set_option maxRecDepth 100000 in
set_option maxHeartbeats 2000000 in
theorem read2 (s : ByteArray) (w : World) (hs : s.size ≤ 60000) (h1 : isSub s.data.toList = false) (h2 : firstDig s.data.toList = true) : Calls Tryz.prog 29 #[.string s] w (ReadPost (pRead s.data.toList).1 (pRead s.data.toList).2.1 (pRead s.data.toList).2.2 w) := by
  have hR : pRead s.data.toList = (lN 1 (valD 2147483647 0 s.data.toList), s.data.toList, true) := by rw [pRead, if_neg (by rw [h1]; simp), if_pos h2]
  rw [hR]
  have hc1 := fun W => cutPrefix_any s ⟨#[37]⟩ W
  have e37 : (⟨#[37]⟩ : ByteArray).data.toList = [37] := rfl
  rw [e37] at hc1
  have hc2 := fun W => cutPrefix_any (bs (Lib.trimPrefix s.data.toList [37])) ⟨#[115, 47]⟩ W
  have e115 : (⟨#[115, 47]⟩ : ByteArray).data.toList = [115, 47] := rfl
  rw [e115, bs_L] at hc2
  have h1' : Lib.hasPrefix (Lib.trimPrefix s.data.toList [37]) [115, 47] = false := h1
  rw [h1'] at hc2
  obtain ⟨c, hz, hc⟩ : ∃ (c : UInt8) (h : 0 < s.size), s[0] = c ∧ 48 ≤ c.toNat ∧ c.toNat ≤ 57 := by
    cases hL : s.data.toList with
    | nil => rw [hL] at h2; cases h2
    | cons c l =>
      rw [hL] at h2
      have hz : 0 < s.size := by rw [← L_len, hL]; simp
      refine ⟨c, hz, ?_, dig_range h2⟩
      have : s.data.toList[0]'(by rw [L_len]; exact hz) = c := by simp only [hL]; rfl
      exact this
  obtain ⟨hc0, hc3, hc4⟩ := hc
  have f1 : ¬ s.toList = [] := by
    intro h; rw [toList_L] at h
    have := congrArg List.length h
    rw [L_len, List.length_nil] at this; omega
  have f2 : s.toList.isEmpty = false := by simpa using f1
  have hdg := fun W => pdigits_any s 2147483647 W (by omega) (by omega)
  clear hR h1 h1' h2 e37 e115
  generalize Lib.trimPrefix s.data.toList [37] = r at *
  generalize Lib.trimPrefix r [115, 47] = q at *
  generalize Lib.hasPrefix s.data.toList [37] = d at *
  simp only
  generalize valD 2147483647 0 s.data.toList = n at *
  generalize hv : Value.tuple #[vL none 0 (lN 1 n), .string (bs s.data.toList), .bool true] = v
  have HV := Lib.hid hv; clear hv
  have f3 : (0 : Int) < s.size := by omega
  go_enter Tryz.func29, Tryz.ntmps29
  go_wp2_with (first | (go_at_call 48; (with_reducible refine (hc1 _).mono ?_); rintro e w2 ⟨rfl, rfl⟩) | (go_at_call 48; (with_reducible refine (hc2 _).mono ?_); rintro e w2 ⟨rfl, rfl⟩) | (go_at_call 50; refine (hdg _).mono ?_; rintro e w2 ⟨rfl, rfl⟩))
  refine bodyPost_ret (v := v) ?_ rfl ⟨none, 0, ?_, ?_, (fun g off h => by cases h), ?_⟩
  · rw [← HV.out]
    simp [results, Tryz.results29, go_sem, vL, lN, zT, zB, bs_of]
  · rw [HV.out]
  · exact RB.nil _ _
  · exact below_box _ _
end Go.Proofs.YtckmkhcahnijmaaGreatDoor
