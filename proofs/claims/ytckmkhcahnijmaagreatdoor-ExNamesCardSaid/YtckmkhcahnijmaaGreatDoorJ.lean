/- The walk of the reference: damierref25.Text. -/
import Derived.Test.YtckmkhcahnijmaaGreatDoorI
namespace Go.Proofs.YtckmkhcahnijmaaGreatDoor
open Go.RowKit
set_option linter.unusedVariables false
set_option linter.unusedSimpArgs false

theorem quiet_left {P : Program} {f : FuncId} {args : Array Value} {w : World} {n : Nat} {v : Value}
    (h : Calls P f args (w.drewN n) fun e w' => e = .returned v ∧ w.drewN n = w') : Calls P f args (w.drewN n) fun e w'' => e = .returned v ∧ ∃ m, w'' = w.drewN m :=
  h.mono fun _ _ ⟨he, hm⟩ => ⟨he, n, hm.symm⟩
theorem rtextZ (z : Int) (w : World) (h0 : 0 ≤ z) (h1 : z ≤ 2147483647) :
    Calls Tryz.prog 23 #[.int .i64 z] w fun e w' => e = .returned (.string (bs (numB z.toNat))) ∧ Below w.heap.size w w' := by
  obtain ⟨n, rfl⟩ := Int.eq_ofNat_of_zero_le h0
  exact rtext_any n w (by omega)
theorem words_at (m : Nat) (hm : m < 14) (w : World) :
    Calls Tryz.prog 21 #[] w fun e w' => e = .returned (.slice (some ⟨w.heap.size, 0, none⟩) 14 14) ∧ w'.cell? ⟨w.heap.size, m, none⟩ = some (.string (bs (wd m))) ∧ Below w.heap.size w w' :=
  (words_any w).mono fun e w' ⟨he, hw⟩ => ⟨he, by subst hw; rw [← wordCells_get m hm]; exact cell_of_row _ _ _ _ _ _ (heap_alloc_new w _), by subst hw; exact below_box _ _⟩

def keysB (l : List (Int × Bool)) : List UInt8 := l.flatMap fun b => [32] ++ ((if b.2 then [45] else []) ++ numB (b.1 + 1).toNat)
def subB (x : Ln) : List UInt8 := (if x.whole then [37] else []) ++ ([115, 47] ++ esc x.pat.data.toList ++ [47] ++ esc x.wth.data.toList ++ [47] ++ (if x.each then [103] else []))
def rText (x : Ln) : List UInt8 :=
  if x.nm = 1 then numB x.n.toNat else if x.nm = 7 then subB x else
    wd x.nm.toNat ++ keysB x.bys ++ (if x.has then [32] ++ tPrint x.t else []) ++ (if x.nm = 5 ∨ x.nm = 6 ∨ x.nm = 13 then [32] ++ numB x.n.toNat else [])
theorem esc_len (l : List UInt8) : (esc l).length ≤ 2 * l.length := by
  induction l with
  | nil => simp [esc]
  | cons c l ih => rw [esc_cons, List.length_append, List.length_cons]; split <;> simp <;> omega

set_option maxRecDepth 100000 in
set_option maxHeartbeats 4000000 in
theorem rtext1 (A : Option Addr) (c : Nat) (x : Ln) (w : World) (h1 : x.nm = 1) (h2 : 0 ≤ x.n) (h3 : x.n ≤ 2147483647) :
    Calls Tryz.prog 9 #[vL A c x] w fun e w' => e = .returned (.string (bs (rText x))) ∧ Below w.heap.size w w' := by
  have HT : Hid (rText x = numB x.n.toNat) := Lib.hid (by rw [rText, if_pos h1])
  obtain ⟨nm, n, l, ⟨col, op, arg, nt⟩, has, whole, each, pat, wth⟩ := x
  simp only at h1 h2 h3
  subst h1
  unfold vL
  simp only at *
  go_enter Tryz.func9, Tryz.ntmps9
  go_wp2_with (first | (go_at_call 23; refine (rtextZ _ _ h2 h3).mono ?_; rintro e w2 ⟨rfl, hb2⟩))
  go_ret
  exact ⟨ret_str (by rw [HT.out]), keep_below (below_box _ _) hb2 (by simp)⟩
set_option maxRecDepth 100000 in
set_option maxHeartbeats 1000000 in
theorem rtext7 (A : Option Addr) (c : Nat) (x : Ln) (w : World) (h1 : x.nm = 7) (h2 : x.pat.size ≤ 1000) (h3 : x.wth.size ≤ 1000) :
    Calls Tryz.prog 9 #[vL A c x] w fun e w' => e = .returned (.string (bs (rText x))) ∧ Below w.heap.size w w' := by
  have HT : Hid (rText x = subB x) := Lib.hid (by rw [rText, if_neg (by omega), if_pos h1])
  obtain ⟨nm, n, l, ⟨col, op, arg, nt⟩, has, whole, each, pat, wth⟩ := x
  simp only at h1 h2 h3
  subst h1
  unfold vL
  simp only at *
  have e1 := esc_len pat.data.toList
  have e2 := esc_len wth.data.toList
  rw [L_len] at e1 e2
  have e3 : (bs (esc pat.data.toList)).size = (esc pat.data.toList).length := rfl
  have e4 : (bs (esc wth.data.toList)).size = (esc wth.data.toList).length := rfl
  go_enter Tryz.func9, Tryz.ntmps9
  go_upto_region 4 with fail
  go_quiet ((go_at_call 24; exact quiet_left (slashes_any _ _ (by omega))))
  cases whole <;> cases each
  all_goals
    go_wp2_with fail
    go_ret
    refine ⟨ret_str (ba_ext ?_), below_drewN (below_box _ _) _⟩
    rw [HT.out, bs_L]
    simp only [app_L, bs_L]
    simp [subB]

theorem wd_len (m : Nat) : (wd m).length ≤ 9 := by
  rcases Nat.lt_or_ge m 14 with h | h
  · match m, h with
    | 0, _ => decide | 1, _ => decide | 2, _ => decide | 3, _ => decide | 4, _ => decide | 5, _ => decide | 6, _ => decide
    | 7, _ => decide | 8, _ => decide | 9, _ => decide | 10, _ => decide | 11, _ => decide | 12, _ => decide | 13, _ => decide
  · simp [wd, List.getD_eq_getElem?_getD, List.getElem?_eq_none (show wordsL.length ≤ m by simpa [wordsL] using h)]
theorem keysB_cons (b : Int × Bool) (l : List (Int × Bool)) : keysB (b :: l) = [32] ++ ((if b.2 then [45] else []) ++ numB (b.1 + 1).toNat) ++ keysB l := by simp [keysB]
theorem tPrint_len (t : Tst) (h : t.arg.size ≤ 65536) : (tPrint t).length ≤ 70000 := by
  rw [tPrint]; split
  · rename_i hR
    have := tRight_ranges hR
    have h2 := numB_len (t.col + 1).toNat
    simp only [tText, List.length_append, List.length_singleton, L_len]
    split <;> simp <;> omega
  · simp

set_option maxRecDepth 100000 in
set_option maxHeartbeats 4000000 in
theorem rtextW (A : Option Addr) (c : Nat) (x : Ln) (w : World) (h0 : 0 ≤ x.nm) (h13 : x.nm ≤ 13) (h1 : x.nm ≠ 1) (h7 : x.nm ≠ 7) (hl : x.bys.length ≤ 4) (hk : x.bys.all keyOk = true)
    (hn : x.nm = 5 ∨ x.nm = 6 ∨ x.nm = 13 → 0 ≤ x.n ∧ x.n ≤ 2147483647) (hs : x.t.arg.size ≤ 65536) (hr : RB w A x.bys) :
    Calls Tryz.prog 9 #[vL A c x] w fun e w' => e = .returned (.string (bs (rText x))) ∧ Below w.heap.size w w' := by
  have HT : Hid (rText x = wd x.nm.toNat ++ keysB x.bys ++ (if x.has then [32] ++ tPrint x.t else []) ++ (if x.nm = 5 ∨ x.nm = 6 ∨ x.nm = 13 then [32] ++ numB x.n.toNat else [])) := Lib.hid (by rw [rText, if_neg h1, if_neg h7])
  have HR := Lib.hid hr; clear hr
  have HN := Lib.hid hn; clear hn
  have HK := Lib.hid hk; clear hk
  obtain ⟨nm, n, l, ⟨col, op, arg, nt⟩, has, whole, each, pat, wth⟩ := x
  simp only at h0 h13 h1 h7 hl hs
  obtain ⟨m, rfl⟩ := Int.eq_ofNat_of_zero_le h0
  have q1 : ((m : Int) == 1) = false := by simpa using h1
  have q7 : ((m : Int) == 7) = false := by simpa using h7
  have q14 : (m : Int) < 14 := by omega
  unfold vL
  simp only at *
  rw [Int.toNat_natCast] at HT
  have hwd := fun W => words_at m (by omega) W
  have hwl := wd_len m
  have hws : (bs (wd m)).size = (wd m).length := rfl
  clear h1 h7
  go_enter Tryz.func9, Tryz.ntmps9
  go_upto_region 10 with fail
  go_cut [4] (fun s wx => s = .string (bs (wd m)) ∧ Box w.heap.size 26 A c ⟨m, n, l, ⟨col, op, arg, nt⟩, has, whole, each, pat, wth⟩ wx ∧ Below w.heap.size w wx)
  case first =>
    have HB0 : Hid (Box w.heap.size 26 A c ⟨m, n, l, ⟨col, op, arg, nt⟩, has, whole, each, pat, wth⟩ (w.alloc (.cells #[.int .i64 m, .int .i64 n, .slice A l.length c, .int .i64 col, .int .i64 op, .string arg, .bool nt, .bool has, .bool whole, .bool each, .string pat, .string wth] 26))) :=
      Lib.hid (by unfold Box; simp [go_sem])
    generalize hW : w.alloc (.cells #[.int .i64 m, .int .i64 n, .slice A l.length c, .int .i64 col, .int .i64 op, .string arg, .bool nt, .bool has, .bool whole, .bool each, .string pat, .string wth] 26) = W at *
    have hbW : Below w.heap.size w W := by rw [← hW]; exact below_box _ _
    clear hW
    have k0 : W.cell? ⟨w.heap.size, 0, none⟩ = some (.int .i64 m) := HB0.out.1
    go_region_with (first | (go_at_call 21; refine (hwd _).mono ?_; rintro e w2 ⟨rfl, hcell, hb2⟩; have hcell2 : w2.cell? ⟨W.heap.size, m, none⟩ = some (.string (bs (wd m))) := hcell; have k0' := keep_cell (undrew hb2) k0; clear hcell))
    all_goals
      go_wp2_with fail
      go_meet
      exact ⟨rfl, Box.keep HB0.out (undrew hb2), keep_below hbW (undrew hb2) hbW.size⟩
  case rest =>
    obtain ⟨rfl, hbox, hbW⟩ := hcut
    have HBX := Lib.hid hbox; clear hbox
    obtain ⟨k0, k1, k2, k3, k4, k5, k6, k7, k8, k9, k10, k11⟩ := HBX.out
    simp only at k0 k1 k2 k3 k4 k5 k6 k7
    clear k8 k9 k10 k11 hwd
    have HRW := Lib.hid (HR.out.keep hbW)
    go_wp2_with fail
    go_loopw [4, 43] (fun o i wr => ∃ (k : Nat) (out : ByteArray), k ≤ l.length ∧ i = .int .i64 k ∧ o = .string out ∧ out.size ≤ 9 + 100 * k ∧ wd m ++ keysB l = out.data.toList ++ keysB (l.drop k) ∧ Below wc.heap.size wc wr) (fun _ i _ => l.length - (intOf i).toNat)
    case atStart => exact ⟨0, _, by omega, rfl, rfl, by omega, by simp [bs_L], Below.refl _ _⟩
    case round =>
      obtain ⟨k, out, hkl, rfl, rfl, ho, hq, hb⟩ := hrel
      have HQ := Lib.hid hq; clear hq
      by_cases hlt : k < l.length
      · obtain ⟨b, off, HA, g1, g2⟩ := (HRW.out.keep hb) k hlt
        subst HA
        have HD := Lib.hid (List.drop_eq_getElem_cons hlt)
        have hok : keyOk l[k] = true := List.all_eq_true.mp HK.out _ (List.getElem_mem hlt)
        have hok2 : 0 ≤ l[k].1 ∧ l[k].1 ≤ 39 := by simpa [keyOk] using hok
        obtain ⟨y1, y2⟩ := hok2
        clear hok
        have hnl := numB_len (l[k].1 + 1).toNat
        have hnz : (bs (numB (l[k].1 + 1).toNat)).size = (numB (l[k].1 + 1).toNat).length := rfl
        cases hd : l[k].2
        all_goals
          go_wp2_with (first | (go_at_call 23; refine (rtextZ _ _ (by omega) (by omega)).mono ?_; rintro e w2 ⟨rfl, hb2⟩))
          go_roundw
          case rel =>
            refine ⟨k + 1, _, by omega, by go_num, rfl, by simp only [ByteArray.size_append, one_size, hnz]; omega, ?_, keep_below (hb.alloc hb.size _) hb2 (by have := hb.size; simp; omega)⟩
            rw [HQ.out, HD.out, keysB_cons]
            simp only [app_L, bs_L]
            simp [hd]
          case measure => simp [intOf]; omega
      · have HN0 := Lib.hid (show l.drop k = [] from List.drop_of_length_le (by omega))
        have r0 := keep_cell hb k0
        have r1 := keep_cell hb k1
        have r3 := keep_cell hb k3
        have r4 := keep_cell hb k4
        have r5 := keep_cell hb k5
        have r6 := keep_cell hb k6
        have r7 := keep_cell hb k7
        have hbr := keep_below hbW hb hbW.size
        have hfp := fun W => fprint_any ⟨col, op, arg, nt⟩ W hs
        unfold vT at hfp
        simp only at hfp
        have htl := tPrint_len ⟨col, op, arg, nt⟩ hs
        have htz : (bs (tPrint ⟨col, op, arg, nt⟩)).size = (tPrint ⟨col, op, arg, nt⟩).length := rfl
        have HQ2 : Hid (out.data.toList = wd m ++ keysB l) := Lib.hid (by rw [HQ.out, HN0.out]; simp [keysB])
        clear HQ HN0
        have hnn := numB_len n.toNat
        have hnz : (bs (numB n.toNat)).size = (numB n.toNat).length := rfl
        have hcs : ((m : Int) == 5) = true ∧ ((m : Int) == 6) = false ∧ ((m : Int) == 13) = false ∨ ((m : Int) == 5) = false ∧ ((m : Int) == 6) = true ∧ ((m : Int) == 13) = false ∨ ((m : Int) == 5) = false ∧ ((m : Int) == 6) = false ∧ ((m : Int) == 13) = true ∨
            ((m : Int) == 5) = false ∧ ((m : Int) == 6) = false ∧ ((m : Int) == 13) = false := by
          simp only [beq_eq_false_iff_ne, beq_iff_eq]; omega
        have hnum : ((m : Int) == 5) = true ∨ ((m : Int) == 6) = true ∨ ((m : Int) == 13) = true → 0 ≤ n ∧ n ≤ 2147483647 := fun h => HN.out (by simpa only [beq_iff_eq] using h)
        cases has
        · rcases hcs with ⟨e1, e2, e3⟩ | ⟨e1, e2, e3⟩ | ⟨e1, e2, e3⟩ | ⟨e1, e2, e3⟩
          rotate_right
          · clear hnum
            go_wp2_with fail
            go_ret
            refine ⟨ret_str (ba_ext ?_), hbr⟩
            rw [HQ2.out, bs_L, HT.out]
            go_light
            simp only [beq_eq_false_iff_ne] at e1 e2 e3
            simp [e1, e2, e3]
          all_goals
            obtain ⟨n1, n2⟩ := hnum (by simp [e1, e2, e3])
            clear hnum
            go_wp2_with (first | (go_at_call 23; refine (rtextZ _ _ (by omega) (by omega)).mono ?_; rintro e w2 ⟨rfl, hb2⟩))
            go_ret
            refine ⟨ret_str (ba_ext ?_), keep_below hbr hb2 hbr.size⟩
            simp only [app_L, bs_L]
            rw [HQ2.out, HT.out]
            go_light
            simp only [beq_eq_false_iff_ne, beq_iff_eq] at e1 e2 e3
            simp [e1, e2, e3]
        · rcases hcs with ⟨e1, e2, e3⟩ | ⟨e1, e2, e3⟩ | ⟨e1, e2, e3⟩ | ⟨e1, e2, e3⟩
          rotate_right
          · clear hnum
            go_wp2_with (first | (go_at_call 25; refine (hfp _).mono ?_; rintro e w2 ⟨rfl, hb2⟩; have s0 := keep_cell hb2 r0; have s1 := keep_cell hb2 r1))
            go_ret
            refine ⟨ret_str (ba_ext ?_), keep_below hbr hb2 hbr.size⟩
            simp only [app_L, bs_L]
            rw [HQ2.out, HT.out]
            go_light
            simp only [beq_eq_false_iff_ne] at e1 e2 e3
            simp [e1, e2, e3]
          all_goals
            obtain ⟨n1, n2⟩ := hnum (by simp [e1, e2, e3])
            clear hnum
            go_wp2_with (first | (go_at_call 25; refine (hfp _).mono ?_; rintro e w2 ⟨rfl, hb2⟩; have s0 := keep_cell hb2 r0; have s1 := keep_cell hb2 r1) | (go_at_call 23; refine (rtextZ _ _ (by omega) (by omega)).mono ?_; rintro e w3 ⟨rfl, hb3⟩))
            go_ret
            refine ⟨ret_str (ba_ext ?_), keep_below (keep_below hbr hb2 hbr.size) hb3 (keep_below hbr hb2 hbr.size).size⟩
            simp only [app_L, bs_L]
            rw [HQ2.out, HT.out]
            go_light
            simp only [beq_eq_false_iff_ne, beq_iff_eq] at e1 e2 e3
            simp [e1, e2, e3]
end Go.Proofs.YtckmkhcahnijmaaGreatDoor
