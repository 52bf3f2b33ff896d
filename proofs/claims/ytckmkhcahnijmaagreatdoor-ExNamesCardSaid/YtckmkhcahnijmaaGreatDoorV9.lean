/- The walks of the program: ex.Print, ex.Parse. -/
import Derived.Test.YtckmkhcahnijmaaGreatDoorV8
import Derived.Test.YtckmkhcahnijmaaGreatDoorU4
namespace Go.Proofs.YtckmkhcahnijmaaGreatDoor
open Go.RowKit
set_option linter.unusedVariables false
set_option linter.unusedSimpArgs false

def pPrint (x : Ln) : List UInt8 := if pRight x then pText x else []
set_option maxRecDepth 100000 in
set_option maxHeartbeats 2000000 in
theorem print_any (A : Option Addr) (c : Nat) (x : Ln) (w : World) (hl : x.bys.length ≤ 65536) (hr : RB w A x.bys) (hs : x.t.arg.size ≤ 65536) (hp : x.pat.size ≤ 65536) (hq : x.wth.size ≤ 65536) :
    Calls Tryz.prog 12 #[vL A c x] w fun e w' => e = .returned (.string (bs (pPrint x))) ∧ Below w.heap.size w w' := by
  have hrt := fun W h => right_any A c x W hl h hs hp hq
  have htx : pRight x = true → ∀ W, RB W A x.bys → Calls Tryz.prog 28 #[vL A c x] W fun e w' => e = .returned (.string (bs (pText x))) ∧ Below W.heap.size W w' := fun h W hr => text_any A c x W (by rw [pRight, Bool.and_eq_true] at h; exact h.1) hr hs hp hq
  have hbx : Below w.heap.size w (w.alloc (.cells (vL A c x).cells 34)) := below_box _ _
  have HR1 := Lib.hid (hr.keep hbx)
  have hP : pPrint x = if pRight x then pText x else [] := rfl
  clear hr
  generalize pPrint x = P at *
  generalize pRight x = R at *
  generalize pText x = tx at *
  have HP := Lib.hid hP; clear hP
  obtain ⟨nm, n, l, ⟨col, op, arg, nt⟩, has, whole, each, pat, wth⟩ := x
  have HB0 : Hid (Box w.heap.size 34 A c ⟨nm, n, l, ⟨col, op, arg, nt⟩, has, whole, each, pat, wth⟩ (w.alloc (.cells #[.int .i64 nm, .int .i64 n, .slice A l.length c, .int .i64 col, .int .i64 op, .string arg, .bool nt, .bool has, .bool whole, .bool each, .string pat, .string wth] 34))) :=
    Lib.hid (by unfold Box; simp [go_sem])
  unfold vL at *
  simp only at *
  cases R
  · go_enter Tryz.func12, Tryz.ntmps12
    go_wp2_with (first | (go_at_call 10; refine (hrt _ HR1.out).mono ?_; rintro e w2 ⟨rfl, hb2⟩))
    go_ret
    exact ⟨ret_str (by rw [HP.out]; rfl), keep_below hbx hb2 (by simp)⟩
  · have htx' := htx rfl
    clear htx
    go_enter Tryz.func12, Tryz.ntmps12
    go_wp2_with (first | (go_at_call 10; refine (hrt _ HR1.out).mono ?_; rintro e w2 ⟨rfl, hb2⟩; obtain ⟨k0, k1, k2, k3, k4, k5, k6, k7, k8, k9, k10, k11⟩ := HB0.out.keep hb2; simp only at k0 k1 k2 k3 k4 k5 k6 k7 k8 k9 k10 k11) | (go_at_call 28; refine (htx' _ (HR1.out.keep hb2)).mono ?_; rintro e w3 ⟨rfl, hb3⟩))
    go_ret
    have b2 := keep_below hbx hb2 (by simp)
    exact ⟨ret_str (by rw [HP.out]; rfl), keep_below b2 hb3 b2.size⟩

theorem partsG_small : ∀ (B : Nat) (L : List UInt8) (i : List (List UInt8)) (l : List UInt8) (ps : List (List UInt8)), partsG L i l = some ps → (∀ p ∈ i, p.length ≤ B) → l.length + L.length ≤ B → ∀ p ∈ ps, p.length ≤ B
  | B, [], i, l, ps, h, hi, hl => by
    rw [partsG] at h; obtain rfl := Option.some.inj h
    intro p hp
    rw [List.mem_append, List.mem_singleton] at hp
    rcases hp with hp | rfl
    · exact hi p hp
    · simp at hl; omega
  | B, [c], i, l, ps, h, hi, hl => by
    by_cases h1 : c = 47
    · rw [partsG_slash h1] at h
      refine partsG_small B [] (i ++ [l]) [] ps h (fun p hp => ?_) (by simp)
      rw [List.mem_append, List.mem_singleton] at hp
      rcases hp with hp | rfl
      · exact hi p hp
      · simp at hl; omega
    · by_cases h2 : c = 92
      · rw [partsG_end h2] at h; cases h
      · rw [partsG_plain h1 h2] at h
        exact partsG_small B [] i (l ++ [c]) ps h hi (by simp at hl ⊢; omega)
  | B, c :: d :: r, i, l, ps, h, hi, hl => by
    by_cases h1 : c = 47
    · rw [partsG_slash h1] at h
      refine partsG_small B (d :: r) (i ++ [l]) [] ps h (fun p hp => ?_) (by simp at hl ⊢; omega)
      rw [List.mem_append, List.mem_singleton] at hp
      rcases hp with hp | rfl
      · exact hi p hp
      · simp at hl; omega
    · by_cases h2 : c = 92
      · by_cases h3 : d = 47 ∨ d = 92
        · rw [partsG_esc h2 h3] at h
          exact partsG_small B r i (l ++ [d]) ps h hi (by simp at hl ⊢; omega)
        · rw [partsG_bad h2 (by simpa using h3)] at h; cases h
      · rw [partsG_plain h1 h2] at h
        exact partsG_small B (d :: r) i (l ++ [c]) ps h hi (by simp at hl ⊢; omega)
def Small (x : Ln) : Prop := x.bys.length ≤ 65536 ∧ x.t.arg.size ≤ 65536 ∧ x.pat.size ≤ 65536 ∧ x.wth.size ≤ 65536
theorem pRead_small (L : List UInt8) (h : L.length ≤ 60000) : Small (pRead L).1 := by
  unfold pRead
  split
  · simp only
    unfold pSub
    split
    · rename_i a b c hp
      have l1 := trim_len (Lib.trimPrefix L [37]) [115, 47]
      have l2 := trim_len L [37]
      have hh := partsG_small 60000 _ [] [] _ hp (by simp) (by simp; omega)
      have ha := hh a (by simp)
      have hb := hh b (by simp)
      exact ⟨by simp [lP], by show zB.size ≤ _; decide, by show (bs a).size ≤ _; rw [bs_size]; omega, by show (bs b).size ≤ _; rw [bs_size]; omega⟩
    · exact ⟨by simp [lW], by show zB.size ≤ _; decide, by show zB.size ≤ _; decide, by show zB.size ≤ _; decide⟩
  · split
    · exact ⟨by simp [lN], by show zB.size ≤ _; decide, by show zB.size ≤ _; decide, by show zB.size ≤ _; decide⟩
    · split
      · simp only
        unfold pArg
        split
        · refine ⟨?_, by show zB.size ≤ _; decide, by show zB.size ≤ _; decide, by show zB.size ≤ _; decide⟩
          show (keysP _).length ≤ _
          have := (pieces_len (L.drop (hd L))).1
          simp only [List.length_drop] at this
          unfold keysP
          simp
          omega
        · split
          · split
            · refine ⟨by simp [lT], ?_, by show zB.size ≤ _; decide, by show zB.size ≤ _; decide⟩
              show (Option.getD _ zT).arg.size ≤ _
              cases hg : ptG (Lib.trimPrefix (L.drop (hd L)) [32]) with
              | none => show zB.size ≤ _; decide
              | some t => have := (tRight_ranges (ptG_some hg).1).2.2.2.2; show t.arg.size ≤ _; omega
            · exact ⟨by simp [lW], by show zB.size ≤ _; decide, by show zB.size ≤ _; decide, by show zB.size ≤ _; decide⟩
          · exact ⟨by simp [lN], by show zB.size ≤ _; decide, by show zB.size ≤ _; decide, by show zB.size ≤ _; decide⟩
      · exact ⟨by simp [zL], by show zB.size ≤ _; decide, by show zB.size ≤ _; decide, by show zB.size ≤ _; decide⟩

def ParsePost (x : Ln) (n : Int) (w : World) (e : Ending) (w' : World) : Prop := ∃ A c, e = .returned (.tuple #[vL A c x, .int .i64 n]) ∧ RB w' A x.bys ∧ (∀ g off, A = some ⟨g, off, none⟩ → w.heap.size ≤ g) ∧ Below w.heap.size w w'
set_option maxRecDepth 100000 in
set_option maxHeartbeats 2000000 in
theorem parse_long (s : ByteArray) (w : World) (hl : 100 < s.size) : Calls Tryz.prog 14 #[.string s] w (ParsePost zL 7 w) := by
  go_enter Tryz.func14, Tryz.ntmps14
  go_wp2_with fail
  refine bodyPost_ret (v := .tuple #[vL none 0 zL, .int .i64 7]) ?_ rfl ⟨none, 0, rfl, RB.nil _ _, (fun g off h => by cases h), below_box _ _⟩
  simp [results, Tryz.results14, go_sem, vL, zL, zT, zB]

set_option maxRecDepth 100000 in
set_option maxHeartbeats 2000000 in
theorem parse_go (s : ByteArray) (x : Ln) (full : List UInt8) (ok : Bool) (y : Ln) (n0 : Int) (m : Int) (w : World) (hl : ¬ 100 < s.size) (hm : w.cell? ⟨0, 0, none⟩ = some (.int .i64 m)) (hrd : pRead s.data.toList = (x, full, ok)) (hpp : pParse s.data.toList = (y, n0)) :
    Calls Tryz.prog 14 #[.string s] w (ParsePost y n0 w) := by
  have hrg := pRead_range s.data.toList
  have hsm := pRead_small s.data.toList (by rw [L_len]; omega)
  have hpar : pParse s.data.toList = if ok then (if (apartB x && pFits x) && pText x == full then (x, 0) else (zL, 3)) else (zL, 11) := by
    rw [pParse, if_neg (by rw [L_len]; omega), hrd]
    have : pOk x = (apartB x && pFits x) := by
      rw [hrd] at hrg
      simp only at hrg
      rw [pOk]; simp [hrg.1, hrg.2]
    simp only [this]
  have hko : apartB x = true → pFits x = true → pOk x = true := fun h1 h2 => by
    rw [hrd] at hrg
    simp only at hrg
    rw [pOk]; simp [hrg.1, hrg.2, h1, h2]
  rw [hrd] at hsm
  simp only at hsm
  obtain ⟨hs1, hs2, hs3, hs4⟩ := hsm
  rw [hpp] at hpar
  have hread : ∀ W, W.cell? ⟨0, 0, none⟩ = some (.int .i64 m) → Calls Tryz.prog 29 #[.string s] W (ReadPost x full ok W) := fun W h => by
    have := read_any s m W (by omega) h
    rw [hrd] at this; exact this
  have ha := fun A c W => apart_any A c x W hs1
  have hf := fun A c W h => pfits_any A c x W hs1 h hs2 hs3 hs4
  have htx : apartB x = true → pFits x = true → ∀ A c W, RB W A x.bys → Calls Tryz.prog 28 #[vL A c x] W fun e w' => e = .returned (.string (bs (pText x))) ∧ Below W.heap.size W w' := fun h1 h2 A c W hr => text_any A c x W (hko h1 h2) hr hs2 hs3 hs4
  clear hko hrg hrd hpp
  generalize pText x = tx at *
  generalize apartB x = ap at *
  generalize pFits x = pf at *
  have HPAR := Lib.hid hpar; clear hpar
  have hm1 : (w.alloc (.cells zRow 34)).cell? ⟨0, 0, none⟩ = some (.int .i64 m) := keep_cell (below_box _ _) hm
  have hz1 := Zero.new w
  have HM1 := Lib.hid hm1; have HZ1 := Lib.hid hz1; clear hm1 hz1 hm
  unfold zRow at HM1 HZ1
  have hbx := below_box w (.cells #[.int .i64 0, .int .i64 0, .slice none 0 0, .int .i64 0, .int .i64 0, .string ⟨#[]⟩, .bool false, .bool false, .bool false, .bool false, .string ⟨#[]⟩, .string ⟨#[]⟩] 34)
  have HBX := Lib.hid hbx; clear hbx
  obtain ⟨nm, n, l, ⟨col, op, arg, nt⟩, has, whole, each, pat, wth⟩ := x
  unfold ReadPost vL at *
  simp only at *
  go_enter Tryz.func14, Tryz.ntmps14
  go_upto_block 0 with (go_at_call 29; refine (hread _ HM1.out).mono ?_; rintro e w2 ⟨A, c, rfl, hrb, hfr, hb2⟩; have HZ2 := Lib.hid (HZ1.out.keep hb2); have HR2 := Lib.hid hrb; have HF2 := Lib.hid hfr; have HB2 := Lib.hid (keep_below HBX.out hb2 (by simp)); clear hrb hfr hb2)
  obtain ⟨W, hWe⟩ : ∃ W, W = w2.alloc (.cells #[.int .i64 nm, .int .i64 n, .slice A l.length c, .int .i64 col, .int .i64 op, .string arg, .bool nt, .bool has, .bool whole, .bool each, .string pat, .string wth] 34) := ⟨_, rfl⟩
  have hbw := below_box w2 (.cells #[.int .i64 nm, .int .i64 n, .slice A l.length c, .int .i64 col, .int .i64 op, .string arg, .bool nt, .bool has, .bool whole, .bool each, .string pat, .string wth] 34)
  rw [← hWe] at hbw
  have HZ3 := Lib.hid (HZ2.out.keep hbw)
  have HR3 := Lib.hid (HR2.out.keep hbw)
  have HB3 := Lib.hid (keep_below HB2.out hbw HB2.out.size)
  have HX3 : Hid (Box w2.heap.size 34 A c ⟨nm, n, l, ⟨col, op, arg, nt⟩, has, whole, each, pat, wth⟩ W) := Lib.hid (by rw [hWe]; unfold Box; simp [go_sem])
  rw [← hWe]
  clear hWe hbw HZ2 HR2 HB2 HZ1 HM1 HBX
  cases ok
  · obtain ⟨rfl, rfl⟩ := Prod.mk.inj HPAR.out
    obtain ⟨⟨a0, a1, a2, a3, a4, a5, a6, a7, a8, a9, a10, a11⟩, fa⟩ := HZ3.out
    go_wp2_with fail
    refine bodyPost_ret (v := .tuple #[vL none 0 zL, .int .i64 11]) ?_ rfl ⟨none, 0, rfl, RB.nil _ _, (fun g off h => by cases h), ?_⟩
    · simp [results, Tryz.results14, go_sem, vL, zL, zT, zB, a0, a1, a2, a3, a4, a5, a6, a7, a8, a9, a10, a11, fa]
    · (iterate 12 (refine below_set ?_ (Nat.le_refl _)))
      exact HB3.out
  · obtain ⟨k0, k1, k2, k3, k4, k5, k6, k7, k8, k9, k10, k11⟩ := HX3.out
    simp only at k0 k1 k2 k3 k4 k5 k6 k7 k8 k9 k10 k11
    cases ap
    · obtain ⟨rfl, rfl⟩ := Prod.mk.inj HPAR.out
      go_wp2_with (go_at_call 26; refine (ha _ _ _).mono ?_; rintro e w4 ⟨rfl, hb4⟩; obtain ⟨⟨a0, a1, a2, a3, a4, a5, a6, a7, a8, a9, a10, a11⟩, fa⟩ := HZ3.out.keep hb4)
      refine bodyPost_ret (v := .tuple #[vL none 0 zL, .int .i64 3]) ?_ rfl ⟨none, 0, rfl, RB.nil _ _, (fun g off h => by cases h), ?_⟩
      · simp [results, Tryz.results14, go_sem, vL, zL, zT, zB, a0, a1, a2, a3, a4, a5, a6, a7, a8, a9, a10, a11, fa]
      · (iterate 12 (refine below_set ?_ (Nat.le_refl _)))
        exact keep_below HB3.out hb4 HB3.out.size
    · cases pf
      · obtain ⟨rfl, rfl⟩ := Prod.mk.inj HPAR.out
        go_wp2_with (first | (go_at_call 26; refine (ha _ _ _).mono ?_; rintro e w4 ⟨rfl, hb4⟩; clear k0 k1 k2 k3 k4 k5 k6 k7 k8 k9 k10 k11; obtain ⟨k0, k1, k2, k3, k4, k5, k6, k7, k8, k9, k10, k11⟩ := HX3.out.keep hb4; simp only at k0 k1 k2 k3 k4 k5 k6 k7 k8 k9 k10 k11) |
          (go_at_call 27; refine (hf _ _ _ (HR3.out.keep hb4)).mono ?_; rintro e w5 ⟨rfl, hb5⟩; obtain ⟨⟨a0, a1, a2, a3, a4, a5, a6, a7, a8, a9, a10, a11⟩, fa⟩ := (HZ3.out.keep hb4).keep hb5))
        refine bodyPost_ret (v := .tuple #[vL none 0 zL, .int .i64 3]) ?_ rfl ⟨none, 0, rfl, RB.nil _ _, (fun g off h => by cases h), ?_⟩
        · simp [results, Tryz.results14, go_sem, vL, zL, zT, zB, a0, a1, a2, a3, a4, a5, a6, a7, a8, a9, a10, a11, fa]
        · (iterate 12 (refine below_set ?_ (Nat.le_refl _)))
          have b4 := keep_below HB3.out hb4 HB3.out.size
          exact keep_below b4 hb5 b4.size
      · have htx' := htx rfl rfl
        clear htx
        have e1 : (bs tx).toList = tx := by rw [toList_L, bs_L]
        have e2 : (bs full).toList = full := by rw [toList_L, bs_L]
        cases he : (bs tx).toList == (bs full).toList
        · have hne : ((bs tx).toList != (bs full).toList) = true := by rw [bne, he]; rfl
          have HQ : Hid ((y, n0) = (zL, 3)) := Lib.hid (by rw [e1, e2] at he; rw [HPAR.out]; simp [he])
          obtain ⟨rfl, rfl⟩ := Prod.mk.inj HQ.out
          clear e1 e2
          go_wp2_with (first | (go_at_call 26; refine (ha _ _ _).mono ?_; rintro e w4 ⟨rfl, hb4⟩; clear k0 k1 k2 k3 k4 k5 k6 k7 k8 k9 k10 k11; obtain ⟨k0, k1, k2, k3, k4, k5, k6, k7, k8, k9, k10, k11⟩ := HX3.out.keep hb4; simp only at k0 k1 k2 k3 k4 k5 k6 k7 k8 k9 k10 k11) |
            (go_at_call 27; refine (hf _ _ _ (HR3.out.keep hb4)).mono ?_; rintro e w5 ⟨rfl, hb5⟩; clear k0 k1 k2 k3 k4 k5 k6 k7 k8 k9 k10 k11; obtain ⟨k0, k1, k2, k3, k4, k5, k6, k7, k8, k9, k10, k11⟩ := (HX3.out.keep hb4).keep hb5; simp only at k0 k1 k2 k3 k4 k5 k6 k7 k8 k9 k10 k11) |
            (go_at_call 28; refine (htx' _ _ _ ((HR3.out.keep hb4).keep hb5)).mono ?_; rintro e w6 ⟨rfl, hb6⟩; obtain ⟨⟨a0, a1, a2, a3, a4, a5, a6, a7, a8, a9, a10, a11⟩, fa⟩ := ((HZ3.out.keep hb4).keep hb5).keep hb6))
          refine bodyPost_ret (v := .tuple #[vL none 0 zL, .int .i64 3]) ?_ rfl ⟨none, 0, rfl, RB.nil _ _, (fun g off h => by cases h), ?_⟩
          · simp [results, Tryz.results14, go_sem, vL, zL, zT, zB, a0, a1, a2, a3, a4, a5, a6, a7, a8, a9, a10, a11, fa]
          · (iterate 12 (refine below_set ?_ (Nat.le_refl _)))
            have b4 := keep_below HB3.out hb4 HB3.out.size
            have b5 := keep_below b4 hb5 b4.size
            exact keep_below b5 hb6 b5.size
        · have hne : ((bs tx).toList != (bs full).toList) = false := by rw [bne, he]; rfl
          have HQ : Hid ((y, n0) = (⟨nm, n, l, ⟨col, op, arg, nt⟩, has, whole, each, pat, wth⟩, 0)) := Lib.hid (by rw [e1, e2] at he; rw [HPAR.out]; simp [he])
          obtain ⟨rfl, rfl⟩ := Prod.mk.inj HQ.out
          clear e1 e2
          go_wp2_with (first | (go_at_call 26; refine (ha _ _ _).mono ?_; rintro e w4 ⟨rfl, hb4⟩; clear k0 k1 k2 k3 k4 k5 k6 k7 k8 k9 k10 k11; obtain ⟨k0, k1, k2, k3, k4, k5, k6, k7, k8, k9, k10, k11⟩ := HX3.out.keep hb4; simp only at k0 k1 k2 k3 k4 k5 k6 k7 k8 k9 k10 k11) |
            (go_at_call 27; refine (hf _ _ _ (HR3.out.keep hb4)).mono ?_; rintro e w5 ⟨rfl, hb5⟩; clear k0 k1 k2 k3 k4 k5 k6 k7 k8 k9 k10 k11; obtain ⟨k0, k1, k2, k3, k4, k5, k6, k7, k8, k9, k10, k11⟩ := (HX3.out.keep hb4).keep hb5; simp only at k0 k1 k2 k3 k4 k5 k6 k7 k8 k9 k10 k11) |
            (go_at_call 28; refine (htx' _ _ _ ((HR3.out.keep hb4).keep hb5)).mono ?_; rintro e w6 ⟨rfl, hb6⟩; obtain ⟨⟨a0, a1, a2, a3, a4, a5, a6, a7, a8, a9, a10, a11⟩, fa⟩ := ((HZ3.out.keep hb4).keep hb5).keep hb6; clear k0 k1 k2 k3 k4 k5 k6 k7 k8 k9 k10 k11; obtain ⟨k0, k1, k2, k3, k4, k5, k6, k7, k8, k9, k10, k11⟩ := ((HX3.out.keep hb4).keep hb5).keep hb6; simp only at k0 k1 k2 k3 k4 k5 k6 k7 k8 k9 k10 k11))
          refine bodyPost_ret (v := .tuple #[vL A c ⟨nm, n, l, ⟨col, op, arg, nt⟩, has, whole, each, pat, wth⟩, .int .i64 0]) ?_ rfl ⟨A, c, rfl, ?_, ?_, ?_⟩
          · simp [results, Tryz.results14, go_sem, vL, a0, a1, a2, a3, a4, a5, a6, a7, a8, a9, a10, a11, fa]
          · have hne : ∀ g off, A = some ⟨g, off, none⟩ → g ≠ w.heap.size := fun g off h => by
              have := HF2.out g off h
              simp at this
              omega
            (iterate 12 (refine RB.set ?_ hne))
            exact ((HR3.out.keep hb4).keep hb5).keep hb6
          · intro g off h
            have := HF2.out g off h
            simp at this
            omega
          · (iterate 12 (refine below_set ?_ (Nat.le_refl _)))
            have b4 := keep_below HB3.out hb4 HB3.out.size
            have b5 := keep_below b4 hb5 b4.size
            exact keep_below b5 hb6 b5.size
theorem parse_any (s : ByteArray) (m : Int) (w : World) (hm : w.cell? ⟨0, 0, none⟩ = some (.int .i64 m)) :
    Calls Tryz.prog 14 #[.string s] w (ParsePost (pParse s.data.toList).1 (pParse s.data.toList).2 w) := by
  by_cases hl : 100 < s.size
  · rw [show pParse s.data.toList = (zL, 7) by rw [pParse, if_pos (by rw [L_len]; exact hl)]]
    exact parse_long s w hl
  · exact parse_go s _ _ _ _ _ m w hl hm rfl rfl
end Go.Proofs.YtckmkhcahnijmaaGreatDoor
