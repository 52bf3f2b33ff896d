/- The walks of the program: ex.named, ex.Full. -/
import Derived.Test.YtckmkhcahnijmaaGreatDoorZ3
namespace Go.Proofs.YtckmkhcahnijmaaGreatDoor
open Go.RowKit
set_option linter.unusedVariables false
set_option linter.unusedSimpArgs false

theorem hasPrefix_any (s p : ByteArray) (w : World) : Calls Tryz.prog 56 #[.string s, .string p] w fun e w' => e = .returned (.bool (Lib.hasPrefix s.data.toList p.data.toList)) ∧ w = w' :=
  (Tryz.strings_HasPrefix s p w).mono fun e w' ⟨he, hw⟩ => ⟨he, hw.symm⟩
theorem cutPrefix_any (s p : ByteArray) (w : World) : Calls Tryz.prog 48 #[.string s, .string p] w fun e w' => e = .returned (.tuple #[.string (bs (Lib.trimPrefix s.data.toList p.data.toList)), .bool (Lib.hasPrefix s.data.toList p.data.toList)]) ∧ w = w' :=
  (Tryz.strings_CutPrefix s p w).mono fun e w' ⟨he, hw⟩ => ⟨he, hw.symm⟩
theorem row_below {B : Nat} {e : TypeId} {k : Nat} {v : Value} {n : Nat} {xs : List Value} {w w' : World} (h : w.ownsRow B e k v n xs) (hb : Below w.heap.size w w') : w'.ownsRow B e k v n xs :=
  h.kept (row := none) ⟨hb.os, hb.tape, hb.output, hb.size, fun j hj _ => hb.block j hj⟩ (by cases hv : v.ownBlock <;> simp)
theorem row_form {w : World} {base size n : Nat} {e : TypeId} {v : Value} {xs : List Value} (h : w.ownsRow base e size v n xs) : ∃ A c, v = .slice A n c := by
  obtain ⟨_, ⟨rfl, rfl⟩ | ⟨g, cap, cur, rfl, _⟩⟩ := h
  · exact ⟨none, 0, rfl⟩
  · exact ⟨_, _, rfl⟩
theorem row_at {w : World} {base n : Nat} {e : TypeId} {A : Option Addr} {c : Nat} {xs : List Value} (h : w.ownsRow base e 1 (.slice A n c) n xs) (j : Nat) (hj : j < n) : ∃ g, A = some ⟨g, 0, none⟩ ∧ w.cell? ⟨g, j, none⟩ = xs[j]? := by
  obtain ⟨hl, ⟨he, rfl⟩ | ⟨g, cap, cur, he, hr⟩⟩ := h
  · omega
  · obtain ⟨rfl, _, rfl⟩ := Value.slice.injEq .. ▸ he
    exact ⟨g, rfl, World.ownsRow.cellAt (base := base) (e := e) (size := 1) (cap := c) (n := n) ⟨hl, .inr ⟨g, c, cur, rfl, hr⟩⟩ j (by omega)⟩
def vints (l : List Nat) : List Value := l.map fun (k : Nat) => Value.int .i64 (k : Int)
theorem vints_snoc (l : List Nat) (k : Nat) : vints (l ++ [k]) = vints l ++ [.int .i64 (k : Int)] := by simp [vints]
theorem Tryz.infoI : (Tryz.prog.info? 3).map (fun i => (i.zero, i.size, i.bytes)) = some (some (.int .i64 0), 1, 8) := by kernel_rfl
theorem namedG_hit {s w ws k acc} (h : w = s) (h2 : s ≠ []) : namedG s (w :: ws) k acc = [k] := by rw [namedG, if_pos ⟨h, h2⟩]
theorem namedG_nil {s w ws k acc} (h : s = []) : namedG s (w :: ws) k acc = namedG s ws (k + 1) acc := by rw [namedG, if_neg (fun q => q.2 h), if_neg (fun q => q.2.1 h)]
theorem namedG_none {s w ws k acc} (h : w = []) : namedG s (w :: ws) k acc = namedG s ws (k + 1) acc := by
  rw [namedG, if_neg (fun q => q.2 (q.1 ▸ h)), if_neg (fun q => q.1 h)]
theorem namedG_more {s w ws k acc} (h : w ≠ s) (hw : w ≠ []) (h2 : s ≠ []) (h3 : Lib.hasPrefix w s = true) : namedG s (w :: ws) k acc = namedG s ws (k + 1) (acc ++ [k]) := by rw [namedG, if_neg (fun q => h q.1), if_pos ⟨hw, h2, h3⟩]
theorem namedG_pass {s w ws k acc} (h : w ≠ s) (h3 : Lib.hasPrefix w s = false) : namedG s (w :: ws) k acc = namedG s ws (k + 1) acc := by
  rw [namedG, if_neg (fun q => h q.1), if_neg (fun q => by have := q.2.2; rw [Lib.hasPrefix] at h3; rw [this] at h3; cases h3)]

set_option maxRecDepth 100000 in
set_option maxHeartbeats 1000000 in
theorem named_any (s : ByteArray) (w : World) (hs : s.size ≤ 65536) :
    Calls Tryz.prog 34 #[.string s] w fun e w' => ∃ v, e = .returned v ∧ w'.ownsRow w.heap.size 3 1 v (pNamed s.data.toList).length (vints (pNamed s.data.toList)) ∧ Below w.heap.size w w' := by
  obtain ⟨i0, hi, hz0, hz1, hz2⟩ := info_parts Tryz.infoI
  go_enter Tryz.func34, Tryz.ntmps34
  go_wp2
  go_loopw [3, 4] (fun o i wr => ∃ (k : Nat) (acc : List Nat), k ≤ 14 ∧ i = .int .i64 k ∧ acc.length ≤ k ∧ wr.ownsRow w.heap.size 3 1 o acc.length (vints acc) ∧ pNamed s.data.toList = namedG s.data.toList (wordsL.drop k) k acc ∧ Below w.heap.size w wr) (fun _ i _ => 14 - (intOf i).toNat)
  case atStart => exact ⟨0, [], by omega, rfl, by simp, World.ownsRow_nil .., rfl, Below.refl _ _⟩
  case round =>
    obtain ⟨k, acc, hk, rfl, hl, hown, hr, hb⟩ := hrel
    have HR := Lib.hid hr; clear hr
    have HO := Lib.hid hown; clear hown
    by_cases hlt : k < 14
    · have h13 : (k : Int) ≤ 13 := by omega
      have hwd := fun W => word_any k hlt W
      have HW := Lib.hid (words_drop k hlt)
      generalize hwk : wd k = wk at *
      have HK := Lib.hid hwk; clear hwk
      have e1 : (bs wk).toList = wk := by rw [toList_L, bs_L]
      have e2 : s.toList = s.data.toList := toList_L s
      by_cases h0 : s.data.toList = []
      · have f1 : s.toList.isEmpty = true := by rw [e2, h0]; rfl
        have f2 : s.toList = [] := by rw [e2, h0]
        have H0 := Lib.hid h0
        have E1 := Lib.hid e1
        clear h0 e1 e2
        go_wp2_with (first | (go_at_call 35; refine (hwd _).mono ?_; rintro e w2 ⟨rfl, hb2⟩))
        all_goals
          go_roundw
          case rel => exact ⟨k + 1, acc, by omega, by go_num, by omega, row_below HO.out hb2, by rw [HR.out, HW.out, namedG_nil H0.out], keep_below hb hb2 hb.size⟩
          case measure => simp [intOf]; omega
      · have f1 : s.toList.isEmpty = false := by rw [e2]; simpa using h0
        have f2 : ¬ s.toList = [] := by rw [e2]; exact h0
        cases he : (bs wk).toList == s.toList
        · have he' : wk ≠ s.data.toList := by
            intro h; rw [e1, e2, h] at he; simp at he
          by_cases hw : wk = []
          · have f3 : (bs wk).toList.isEmpty = true := by rw [e1, hw]; rfl
            have f4 : (bs wk).toList = [] := by rw [e1, hw]
            have H0 := Lib.hid hw
            have HE := Lib.hid he'
            have E1 := Lib.hid e1
            clear h0 e1 e2 he' hw
            go_wp2_with (first | (go_at_call 35; refine (hwd _).mono ?_; rintro e w2 ⟨rfl, hb2⟩))
            go_roundw
            case rel => exact ⟨k + 1, acc, by omega, by go_num, by omega, row_below HO.out hb2, by rw [HR.out, HW.out, namedG_none H0.out], keep_below hb hb2 hb.size⟩
            case measure => simp [intOf]; omega
          · have f3 : (bs wk).toList.isEmpty = false := by rw [e1]; simpa using hw
            have f4 : ¬ (bs wk).toList = [] := by rw [e1]; exact hw
            have H0 := Lib.hid hw
            have HE := Lib.hid he'
            have HS := Lib.hid h0
            have hpf := fun W => hasPrefix_any (bs wk) s W
            rw [bs_L] at hpf
            cases hp : Lib.hasPrefix wk s.data.toList
            · rw [hp] at hpf
              have HP := Lib.hid hp
              clear h0 e1 e2 he' hw hp
              go_wp2_with (first | (go_at_call 35; refine (hwd _).mono ?_; rintro e w2 ⟨rfl, hb2⟩) | (go_at_call 56; refine (hpf _).mono ?_; rintro e w3 ⟨rfl, rfl⟩))
              go_roundw
              case rel => exact ⟨k + 1, acc, by omega, by go_num, by omega, row_below HO.out hb2, by rw [HR.out, HW.out, namedG_pass HE.out HP.out], keep_below hb hb2 hb.size⟩
              case measure => simp [intOf]; omega
            · rw [hp] at hpf
              have HP := Lib.hid hp
              clear h0 e1 e2 he' hw hp
              go_wp2_with (first | (go_at_call 35; refine (hwd _).mono ?_; rintro e w2 ⟨rfl, hb2⟩; have hown2 := row_below HO.out hb2; have hbw := keep_below hb hb2 hb.size) | (go_at_call 56; refine (hpf _).mono ?_; rintro e w3 ⟨rfl, rfl⟩) |
                (at_builtin; go_must (refine app1 _ rfl (.tmp 32) (.tmp 34) 63 rfl w.heap.size 3 i0 _ 8 Tryz.underlying63 hi hz0 hz1 hz2 rfl _ _ _ (by rfl) hown2 _ rfl (by rfl) (by omega) (by omega) hbw.size ?_); intro g' cap' w1 hown1 hb1 _))
              go_roundw
              case rel => exact ⟨k + 1, acc ++ [k], by omega, by go_num, by simp; omega, by rw [vints_snoc, List.length_append]; exact hown1, by rw [HR.out, HW.out, namedG_more HE.out H0.out HS.out HP.out], hb1 _ hbw⟩
              case measure => simp [intOf]; omega
        · have he' : wk = s.data.toList := by rw [beq_iff_eq, e1, e2] at he; exact he
          have HE := Lib.hid he'
          have HS := Lib.hid h0
          clear h0 e1 e2 he'
          go_wp2_with (first | (go_at_call 35; refine (hwd _).mono ?_; rintro e w2 ⟨rfl, hb2⟩))
          go_ret
          refine ⟨_, rfl, ?_, keep_below (keep_below hb hb2 hb.size) (below_box _ _) (keep_below hb hb2 hb.size).size⟩
          rw [HR.out, HW.out, namedG_hit HE.out HS.out]
          exact World.ownsRow_lit w2 #[.int .i64 (k : Int)] 1 (keep_below hb hb2 hb.size).size (by unfold maxLen; omega) rfl
    · have HK := Lib.hid (show k = 14 by omega)
      have HN := Lib.hid (show wordsL.drop k = [] by rw [HK.out]; rfl)
      go_wp2_with fail
      go_ret
      refine ⟨_, rfl, ?_, hb⟩
      rw [HR.out, HN.out, namedG]; exact HO.out

set_option maxHeartbeats 1000000 in
theorem full_any (s : ByteArray) (w : World) (hs : s.size ≤ 65536) :
    Calls Tryz.prog 19 #[.string s] w fun e w' => e = .returned (.tuple #[.string (bs (rFull s.data.toList).1), .bool (rFull s.data.toList).2]) ∧ Below w.heap.size w w' := by
  have hnm := named_any s w hs
  rw [rFull_named]
  cases hn : pNamed s.data.toList with
  | nil =>
    rw [hn] at hnm
    go_enter Tryz.func19, Tryz.ntmps19
    go_wp2_with (first | (go_at_call 34; refine hnm.mono ?_; rintro e w2 ⟨v, rfl, hown, hb2⟩; obtain ⟨A, c, rfl⟩ := row_form hown))
    go_ret2
    exact ⟨rfl, hb2⟩
  | cons k l =>
    cases l with
    | nil =>
      obtain ⟨hw, _, _⟩ := named_word hn
      have hk : k < 14 := by unfold isWord at hw; omega
      have hwd := fun W => word_any k hk W
      rw [hn] at hnm
      clear hw hn
      go_enter Tryz.func19, Tryz.ntmps19
      go_wp2_with (first | (go_at_call 34; refine hnm.mono ?_; rintro e w2 ⟨v, rfl, hown, hb2⟩; obtain ⟨A, c, rfl⟩ := row_form hown; obtain ⟨g, rfl, hcell⟩ := row_at hown 0 (by simp); simp only [vints, List.map_cons, List.getElem?_cons_zero] at hcell) | (go_at_call 35; refine (hwd _).mono ?_; rintro e w3 ⟨rfl, hb3⟩))
      go_ret2
      exact ⟨rfl, keep_below hb2 hb3 hb2.size⟩
    | cons k2 l =>
      rw [hn] at hnm
      have hz : ¬ ((l.length : Int) + 1 + 1 = 1) := by omega
      go_enter Tryz.func19, Tryz.ntmps19
      go_wp2_with (first | (go_at_call 34; refine hnm.mono ?_; rintro e w2 ⟨v, rfl, hown, hb2⟩; obtain ⟨A, c, rfl⟩ := row_form hown))
      go_ret2
      exact ⟨rfl, hb2⟩
end Go.Proofs.YtckmkhcahnijmaaGreatDoor
