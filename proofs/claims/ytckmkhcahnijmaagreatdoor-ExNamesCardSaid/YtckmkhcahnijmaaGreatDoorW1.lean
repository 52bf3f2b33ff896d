/- The walks of the statements' own functions: Mine, Ours. -/
import Derived.Test.YtckmkhcahnijmaaGreatDoorV8
import Derived.OneCell
namespace Go.Proofs.YtckmkhcahnijmaaGreatDoor
open Go.RowKit
set_option linter.unusedVariables false
set_option linter.unusedSimpArgs false

theorem Tryz.info55 : (Tryz.prog.info? 55).map (fun i => (i.zero, i.size, i.bytes)) = some (some (.agg #[.int .i64 0, .bool false]), 2, 16) := by kernel_rfl
theorem frozen_old (w : World) (o : Obj) (a : Addr) (h : a.block < w.heap.size) : (w.alloc o).frozen? a = w.frozen? a := (below_box w o).frozen h
theorem cell_set_ne (w : World) (a b : Addr) (v : Value) (h : a.block ≠ b.block ∨ a.off ≠ b.off) : (w.setCell a v).cell? b = w.cell? b :=
  World.cell?_setCell_other _ _ _ _ (fun e => by rw [e] at h; rcases h with h | h <;> exact h rfl)
theorem frozen_set (w : World) (a b : Addr) (v : Value) : (w.setCell a v).frozen? b = w.frozen? b := World.frozen?_setCell ..
theorem Zero.keepB {b B : Nat} {w w1 : World} (h : Zero b w) (hb : Below B w w1) (hlt : b < B) : Zero b w1 := by
  obtain ⟨⟨a0, a1, a2, a3, a4, a5, a6, a7, a8, a9, a10, a11⟩, fa⟩ := h
  exact ⟨⟨(hb.cell (p := ⟨b, 0, none⟩) hlt).trans a0, (hb.cell (p := ⟨b, 1, none⟩) hlt).trans a1, (hb.cell (p := ⟨b, 2, none⟩) hlt).trans a2, (hb.cell (p := ⟨b, 3, none⟩) hlt).trans a3, (hb.cell (p := ⟨b, 4, none⟩) hlt).trans a4, (hb.cell (p := ⟨b, 5, none⟩) hlt).trans a5, (hb.cell (p := ⟨b, 6, none⟩) hlt).trans a6, (hb.cell (p := ⟨b, 7, none⟩) hlt).trans a7, (hb.cell (p := ⟨b, 8, none⟩) hlt).trans a8, (hb.cell (p := ⟨b, 9, none⟩) hlt).trans a9, (hb.cell (p := ⟨b, 10, none⟩) hlt).trans a10, (hb.cell (p := ⟨b, 11, none⟩) hlt).trans a11⟩, fun o => (hb.frozen (p := ⟨b, o, none⟩) hlt).trans (fa o)⟩
theorem Zero.set {b b' o : Nat} {w : World} {v : Value} (h : Zero b w) (hne : b' ≠ b) : Zero b (w.setCell ⟨b', o, none⟩ v) := by
  obtain ⟨⟨a0, a1, a2, a3, a4, a5, a6, a7, a8, a9, a10, a11⟩, fa⟩ := h
  exact ⟨⟨(cell_set_ne _ _ _ _ (.inl hne)).trans a0, (cell_set_ne _ _ _ _ (.inl hne)).trans a1, (cell_set_ne _ _ _ _ (.inl hne)).trans a2, (cell_set_ne _ _ _ _ (.inl hne)).trans a3, (cell_set_ne _ _ _ _ (.inl hne)).trans a4, (cell_set_ne _ _ _ _ (.inl hne)).trans a5, (cell_set_ne _ _ _ _ (.inl hne)).trans a6, (cell_set_ne _ _ _ _ (.inl hne)).trans a7, (cell_set_ne _ _ _ _ (.inl hne)).trans a8, (cell_set_ne _ _ _ _ (.inl hne)).trans a9, (cell_set_ne _ _ _ _ (.inl hne)).trans a10, (cell_set_ne _ _ _ _ (.inl hne)).trans a11⟩, fun o => (frozen_set _ _ _ _).trans (fa o)⟩
theorem RB.keepB {w w1 : World} {A : Option Addr} {l : List (Int × Bool)} {B : Nat} (h : RB w A l) (hb : Below B w w1) (hA : ∀ g off, A = some ⟨g, off, none⟩ → g < B) : RB w1 A l := fun j hj => by
  obtain ⟨g, off, e, h1, h2⟩ := h j hj
  have := hA g off e
  exact ⟨g, off, e, (hb.cell (p := ⟨g, _, none⟩) this).trans h1, (hb.cell (p := ⟨g, _, none⟩) this).trans h2⟩

set_option maxRecDepth 100000 in
set_option maxHeartbeats 2000000 in
theorem mine_any (A : Option Addr) (c : Nat) (x : Ln) (w : World) (hl : x.bys.length ≤ 65536) (hr : RB w A x.bys) :
    Calls Tryz.prog 11 #[vL A c x] w fun e w' => ∃ A' c', e = .returned (vL A' c' x) ∧ RB w' A' x.bys ∧ Below w.heap.size w w' := by
  obtain ⟨i0, hi, hz0, hz1, hz2⟩ := info_parts Tryz.info57
  obtain ⟨nm, n, l, ⟨col, op, arg, nt⟩, has, whole, each, pat, wth⟩ := x
  unfold vL
  simp only at *
  have HR := Lib.hid hr; clear hr
  go_enter Tryz.func11, Tryz.ntmps11
  go_upto_block 0 with fail
  obtain ⟨W, hWe⟩ : ∃ W, W = ((w.alloc (.cells #[.int .i64 nm, .int .i64 n, .slice A l.length c, .int .i64 col, .int .i64 op, .string arg, .bool nt, .bool has, .bool whole, .bool each, .string pat, .string wth] 26)).alloc (.cells zRow 34)).alloc (.cells #[.int .i64 nm, .int .i64 n, .slice none 0 0, .int .i64 col, .int .i64 op, .string arg, .bool nt, .bool has, .bool whole, .bool each, .string pat, .string wth] 34) := ⟨_, rfl⟩
  have hbw : Below w.heap.size w W := by rw [hWe]; exact (below_box2 _ _ _).alloc (by simp; omega) _
  have hsz : W.heap.size = w.heap.size + 3 := by rw [hWe]; simp
  have hz : Zero (w.heap.size + 1) W := by rw [hWe]; unfold Zero zRow; simp [go_sem]
  have hd : ∀ o, W.frozen? ⟨w.heap.size + 1 + 1, o, none⟩ = false := fun o => by rw [hWe]; simp [go_sem]
  have d0 : W.cell? ⟨w.heap.size + 1 + 1, 0, none⟩ = some (.int .i64 nm) := by rw [hWe]; simp [go_sem]
  have d1 : W.cell? ⟨w.heap.size + 1 + 1, 1, none⟩ = some (.int .i64 n) := by rw [hWe]; simp [go_sem]
  have d2 : W.cell? ⟨w.heap.size + 1 + 1, 2, none⟩ = some (.slice none 0 0) := by rw [hWe]; simp [go_sem]
  have d3 : W.cell? ⟨w.heap.size + 1 + 1, 3, none⟩ = some (.int .i64 col) := by rw [hWe]; simp [go_sem]
  have d4 : W.cell? ⟨w.heap.size + 1 + 1, 4, none⟩ = some (.int .i64 op) := by rw [hWe]; simp [go_sem]
  have d5 : W.cell? ⟨w.heap.size + 1 + 1, 5, none⟩ = some (.string arg) := by rw [hWe]; simp [go_sem]
  have d6 : W.cell? ⟨w.heap.size + 1 + 1, 6, none⟩ = some (.bool nt) := by rw [hWe]; simp [go_sem]
  have d7 : W.cell? ⟨w.heap.size + 1 + 1, 7, none⟩ = some (.bool has) := by rw [hWe]; simp [go_sem]
  have d8 : W.cell? ⟨w.heap.size + 1 + 1, 8, none⟩ = some (.bool whole) := by rw [hWe]; simp [go_sem]
  have d9 : W.cell? ⟨w.heap.size + 1 + 1, 9, none⟩ = some (.bool each) := by rw [hWe]; simp [go_sem]
  have d10 : W.cell? ⟨w.heap.size + 1 + 1, 10, none⟩ = some (.string pat) := by rw [hWe]; simp [go_sem]
  have d11 : W.cell? ⟨w.heap.size + 1 + 1, 11, none⟩ = some (.string wth) := by rw [hWe]; simp [go_sem]
  have hrw := HR.out.keep hbw
  unfold zRow at hWe
  rw [← hWe]
  clear hWe
  have D0 := Lib.hid d0; clear d0
  have D1 := Lib.hid d1; clear d1
  have D2 := Lib.hid d2; clear d2
  have D3 := Lib.hid d3; clear d3
  have D4 := Lib.hid d4; clear d4
  have D5 := Lib.hid d5; clear d5
  have D6 := Lib.hid d6; clear d6
  have D7 := Lib.hid d7; clear d7
  have D8 := Lib.hid d8; clear d8
  have D9 := Lib.hid d9; clear d9
  have D10 := Lib.hid d10; clear d10
  have D11 := Lib.hid d11; clear d11
  have HS := Lib.hid hsz; clear hsz
  have HZ := Lib.hid hz; clear hz
  have HD := Lib.hid hd; clear hd
  have HRW := Lib.hid hrw; clear hrw
  have HB := Lib.hid hbw; clear hbw
  go_wp2_with fail
  go_loopw [37] (fun i wr => ∃ (j : Nat) (v : Value), j ≤ l.length ∧ i = .int .i64 j ∧ wr.cell? ⟨w.heap.size + 1 + 1, 2, none⟩ = some v ∧ wr.ownsRow W.heap.size 57 2 v j (kcells (l.take j)) ∧ (∀ o, o ≠ 2 → wr.cell? ⟨w.heap.size + 1 + 1, o, none⟩ = W.cell? ⟨w.heap.size + 1 + 1, o, none⟩) ∧
      (∀ o, wr.frozen? ⟨w.heap.size + 1 + 1, o, none⟩ = false) ∧ Zero (w.heap.size + 1) wr ∧ RB wr A l ∧ Below w.heap.size w wr ∧ W.heap.size ≤ wr.heap.size) (fun i _ => l.length - (intOf i).toNat)
  case atStart => exact ⟨0, _, by omega, rfl, D2.out, World.ownsRow_nil .., fun o _ => rfl, HD.out, HZ.out, HRW.out, HB.out, Nat.le_refl _⟩
  case round =>
    obtain ⟨j, v, hj, rfl, hc2, hown, hk, hf, hz, hrb, hb, hle⟩ := hrel
    have HO := Lib.hid hown; have HK := Lib.hid hk; have HF := Lib.hid hf; have HZ2 := Lib.hid hz; have HRB := Lib.hid hrb; clear hown hk hf hz hrb
    have h3 : w.heap.size + 1 + 1 < wr.heap.size := by have := HS.out; omega
    by_cases hlt : j < l.length
    · obtain ⟨b, off, HA, h1', h2'⟩ := HR.out j hlt
      have hb0 := World.block_lt_of_cell? w _ h1'
      simp only at hb0
      have HRBL : Hid (∀ g off, A = some ⟨g, off, none⟩ → g < w.heap.size) := Lib.hid (fun g off h => by rw [HA] at h; simp at h; omega)
      have h1 := keep_cell hb h1'
      have h2 := keep_cell hb h2'
      subst HA
      clear h1' h2'
      have hb1' : b < wr.heap.size := by omega
      have HT : Hid (l.take (j + 1) = l.take j ++ [l[j]]) := Lib.hid (List.take_succ_eq_append_getElem hlt)
      generalize l[j] = y at *
      go_upto_region 5 with fail
      obtain ⟨W5, hW5⟩ : ∃ W5, W5 = wr.alloc (.cells #[.int .i64 y.1, .bool y.2] 55) := ⟨_, rfl⟩
      have s0 : W5.cell? ⟨wr.heap.size, 0, none⟩ = some (.int .i64 y.1) := by rw [hW5]; simp [go_sem]
      have s1 : W5.cell? ⟨wr.heap.size, 1, none⟩ = some (.bool y.2) := by rw [hW5]; simp [go_sem]
      have hb5 : Below wr.heap.size wr W5 := by rw [hW5]; exact below_box _ _
      have hc5 := keep_cell hb5 hc2
      have HO5 := Lib.hid (row_below HO.out hb5)
      rw [← hW5]
      clear hW5 h1 h2
      have HB5 := Lib.hid hb5; clear hb5
      have hle5 : wr.heap.size ≤ W5.heap.size := HB5.out.size
      have hbase : W.heap.size ≤ W5.heap.size := by omega
      go_wp2_with (at_builtin; go_must (refine appN _ rfl (.tmp 42) (.tmp 48) 31 rfl W.heap.size 57 i0 _ 2 16 Tryz.underlying31 hi hz0 hz1 hz2 rfl (by omega) _ _ _ (by rfl) HO5.out [_, _] rfl (by simp [Value.oneCell']) (by rfl) (by omega) (by omega) hbase ?_); intro g' cap' w1 hown1 hb1 _; have hbW := hb1 _ (Below.refl _ _); have q2 : w1.cell? ⟨w.heap.size + 1 + 1, 2, none⟩ = some v := (hbW.cell (p := ⟨w.heap.size + 1 + 1, 2, none⟩) (by have := HS.out; simp; omega)).trans hc5; have q3 : w1.frozen? ⟨w.heap.size + 1 + 1, 2, none⟩ = false := (hbW.frozen (p := ⟨w.heap.size + 1 + 1, 2, none⟩) (by have := HS.out; simp; omega)).trans ((HB5.out.frozen (p := ⟨w.heap.size + 1 + 1, 2, none⟩) h3).trans (HF.out 2)))
      go_roundw
      case rel =>
        have hS := HS.out
        refine ⟨j + 1, .slice (some ⟨g', 0, none⟩) (j + 1) cap', by omega, by go_num, by simp [go_sem, q2, q3], ?_, ?_, ?_, ?_, ?_, ?_, ?_⟩
        · rw [HT.out, kcells_snoc]
          refine ownsRow_setCell_other hown1 ?_ _
          intro h
          have := (hown1.lt g' rfl).1
          simp [Value.ownBlock] at h; omega
        · intro o ho
          rw [cell_set_ne _ _ _ _ (by simp; omega)]
          exact (hbW.cell (p := ⟨w.heap.size + 1 + 1, o, none⟩) (by simp; omega)).trans ((HB5.out.cell (p := ⟨w.heap.size + 1 + 1, o, none⟩) h3).trans (HK.out o ho))
        · intro o
          rw [frozen_set]
          exact (hbW.frozen (p := ⟨w.heap.size + 1 + 1, o, none⟩) (by simp; omega)).trans ((HB5.out.frozen (p := ⟨w.heap.size + 1 + 1, o, none⟩) h3).trans (HF.out o))
        · exact ((HZ2.out.keep HB5.out).keepB hbW (by omega)).set (by omega)
        · refine RB.set ?_ ?_
          · exact (HRB.out.keep HB5.out).keepB hbW (fun g off h => by have := HRBL.out g off h; omega)
          · intro g off h; have := HRBL.out g off h; omega
        · exact below_set ((keep_below hb HB5.out hb.size).trans (hbW.mono (by omega))) (by omega)
        · have := hbW.size; simp at this ⊢; omega
      case measure => simp [intOf]; omega
    · have hjn : j = l.length := by omega
      subst hjn
      have e0 : wr.cell? ⟨w.heap.size + 1 + 1, 0, none⟩ = some (.int .i64 nm) := (HK.out 0 (by omega)).trans D0.out
      have e1 : wr.cell? ⟨w.heap.size + 1 + 1, 1, none⟩ = some (.int .i64 n) := (HK.out 1 (by omega)).trans D1.out
      have e3 : wr.cell? ⟨w.heap.size + 1 + 1, 3, none⟩ = some (.int .i64 col) := (HK.out 3 (by omega)).trans D3.out
      have e4 : wr.cell? ⟨w.heap.size + 1 + 1, 4, none⟩ = some (.int .i64 op) := (HK.out 4 (by omega)).trans D4.out
      have e5 : wr.cell? ⟨w.heap.size + 1 + 1, 5, none⟩ = some (.string arg) := (HK.out 5 (by omega)).trans D5.out
      have e6 : wr.cell? ⟨w.heap.size + 1 + 1, 6, none⟩ = some (.bool nt) := (HK.out 6 (by omega)).trans D6.out
      have e7 : wr.cell? ⟨w.heap.size + 1 + 1, 7, none⟩ = some (.bool has) := (HK.out 7 (by omega)).trans D7.out
      have e8 : wr.cell? ⟨w.heap.size + 1 + 1, 8, none⟩ = some (.bool whole) := (HK.out 8 (by omega)).trans D8.out
      have e9 : wr.cell? ⟨w.heap.size + 1 + 1, 9, none⟩ = some (.bool each) := (HK.out 9 (by omega)).trans D9.out
      have e10 : wr.cell? ⟨w.heap.size + 1 + 1, 10, none⟩ = some (.string pat) := (HK.out 10 (by omega)).trans D10.out
      have e11 : wr.cell? ⟨w.heap.size + 1 + 1, 11, none⟩ = some (.string wth) := (HK.out 11 (by omega)).trans D11.out
      obtain ⟨A', c', rfl⟩ := row_form HO.out
      have hown := HO.out
      rw [List.take_length] at hown
      have hrb := RB.of_row rfl hown
      obtain ⟨⟨a0, a1, a2, a3, a4, a5, a6, a7, a8, a9, a10, a11⟩, fa⟩ := HZ2.out
      have fd := HF.out
      have HON := Lib.hid hown; have HRB2 := Lib.hid hrb; clear hown hrb
      go_wp2_with fail
      refine bodyPost_ret (v := vL A' c' ⟨nm, n, l, ⟨col, op, arg, nt⟩, has, whole, each, pat, wth⟩) ?_ rfl ⟨A', c', rfl, ?_, ?_⟩
      · simp [results, Tryz.results11, go_sem, vL, a0, a1, a2, a3, a4, a5, a6, a7, a8, a9, a10, a11, fa, e0, e1, e3, e4, e5, e6, e7, e8, e9, e10, e11, hc2]
      · have hne : ∀ g off, A' = some ⟨g, off, none⟩ → g ≠ w.heap.size + 1 := fun g off h => by
          subst h
          have h1 := (HON.out.lt g rfl).1
          have h2 := HS.out
          omega
        (iterate 12 (refine RB.set ?_ hne))
        exact HRB2.out
      · (iterate 12 (refine below_set ?_ (by omega)))
        exact hb

set_option maxRecDepth 100000 in
set_option maxHeartbeats 2000000 in
theorem ours_any (A : Option Addr) (c : Nat) (x : Ln) (w : World) (hl : x.bys.length ≤ 65536) (hr : RB w A x.bys) :
    Calls Tryz.prog 16 #[vL A c x] w fun e w' => ∃ A' c', e = .returned (vL A' c' x) ∧ RB w' A' x.bys ∧ Below w.heap.size w w' := by
  obtain ⟨i0, hi, hz0, hz1, hz2⟩ := info_parts Tryz.info55
  obtain ⟨nm, n, l, ⟨col, op, arg, nt⟩, has, whole, each, pat, wth⟩ := x
  unfold vL
  simp only at *
  have HR := Lib.hid hr; clear hr
  go_enter Tryz.func16, Tryz.ntmps16
  go_upto_block 0 with fail
  obtain ⟨W, hWe⟩ : ∃ W, W = ((w.alloc (.cells #[.int .i64 nm, .int .i64 n, .slice A l.length c, .int .i64 col, .int .i64 op, .string arg, .bool nt, .bool has, .bool whole, .bool each, .string pat, .string wth] 34)).alloc (.cells zRow 26)).alloc (.cells #[.int .i64 nm, .int .i64 n, .slice none 0 0, .int .i64 col, .int .i64 op, .string arg, .bool nt, .bool has, .bool whole, .bool each, .string pat, .string wth] 26) := ⟨_, rfl⟩
  have hbw : Below w.heap.size w W := by rw [hWe]; exact (below_box2 _ _ _).alloc (by simp; omega) _
  have hsz : W.heap.size = w.heap.size + 3 := by rw [hWe]; simp
  have hz : Zero (w.heap.size + 1) W := by rw [hWe]; unfold Zero zRow; simp [go_sem]
  have hd : ∀ o, W.frozen? ⟨w.heap.size + 1 + 1, o, none⟩ = false := fun o => by rw [hWe]; simp [go_sem]
  have d0 : W.cell? ⟨w.heap.size + 1 + 1, 0, none⟩ = some (.int .i64 nm) := by rw [hWe]; simp [go_sem]
  have d1 : W.cell? ⟨w.heap.size + 1 + 1, 1, none⟩ = some (.int .i64 n) := by rw [hWe]; simp [go_sem]
  have d2 : W.cell? ⟨w.heap.size + 1 + 1, 2, none⟩ = some (.slice none 0 0) := by rw [hWe]; simp [go_sem]
  have d3 : W.cell? ⟨w.heap.size + 1 + 1, 3, none⟩ = some (.int .i64 col) := by rw [hWe]; simp [go_sem]
  have d4 : W.cell? ⟨w.heap.size + 1 + 1, 4, none⟩ = some (.int .i64 op) := by rw [hWe]; simp [go_sem]
  have d5 : W.cell? ⟨w.heap.size + 1 + 1, 5, none⟩ = some (.string arg) := by rw [hWe]; simp [go_sem]
  have d6 : W.cell? ⟨w.heap.size + 1 + 1, 6, none⟩ = some (.bool nt) := by rw [hWe]; simp [go_sem]
  have d7 : W.cell? ⟨w.heap.size + 1 + 1, 7, none⟩ = some (.bool has) := by rw [hWe]; simp [go_sem]
  have d8 : W.cell? ⟨w.heap.size + 1 + 1, 8, none⟩ = some (.bool whole) := by rw [hWe]; simp [go_sem]
  have d9 : W.cell? ⟨w.heap.size + 1 + 1, 9, none⟩ = some (.bool each) := by rw [hWe]; simp [go_sem]
  have d10 : W.cell? ⟨w.heap.size + 1 + 1, 10, none⟩ = some (.string pat) := by rw [hWe]; simp [go_sem]
  have d11 : W.cell? ⟨w.heap.size + 1 + 1, 11, none⟩ = some (.string wth) := by rw [hWe]; simp [go_sem]
  have hrw := HR.out.keep hbw
  unfold zRow at hWe
  rw [← hWe]
  clear hWe
  have D0 := Lib.hid d0; clear d0
  have D1 := Lib.hid d1; clear d1
  have D2 := Lib.hid d2; clear d2
  have D3 := Lib.hid d3; clear d3
  have D4 := Lib.hid d4; clear d4
  have D5 := Lib.hid d5; clear d5
  have D6 := Lib.hid d6; clear d6
  have D7 := Lib.hid d7; clear d7
  have D8 := Lib.hid d8; clear d8
  have D9 := Lib.hid d9; clear d9
  have D10 := Lib.hid d10; clear d10
  have D11 := Lib.hid d11; clear d11
  have HS := Lib.hid hsz; clear hsz
  have HZ := Lib.hid hz; clear hz
  have HD := Lib.hid hd; clear hd
  have HRW := Lib.hid hrw; clear hrw
  have HB := Lib.hid hbw; clear hbw
  go_wp2_with fail
  go_loopw [37] (fun i wr => ∃ (j : Nat) (v : Value), j ≤ l.length ∧ i = .int .i64 j ∧ wr.cell? ⟨w.heap.size + 1 + 1, 2, none⟩ = some v ∧ wr.ownsRow W.heap.size 55 2 v j (kcells (l.take j)) ∧ (∀ o, o ≠ 2 → wr.cell? ⟨w.heap.size + 1 + 1, o, none⟩ = W.cell? ⟨w.heap.size + 1 + 1, o, none⟩) ∧
      (∀ o, wr.frozen? ⟨w.heap.size + 1 + 1, o, none⟩ = false) ∧ Zero (w.heap.size + 1) wr ∧ RB wr A l ∧ Below w.heap.size w wr ∧ W.heap.size ≤ wr.heap.size) (fun i _ => l.length - (intOf i).toNat)
  case atStart => exact ⟨0, _, by omega, rfl, D2.out, World.ownsRow_nil .., fun o _ => rfl, HD.out, HZ.out, HRW.out, HB.out, Nat.le_refl _⟩
  case round =>
    obtain ⟨j, v, hj, rfl, hc2, hown, hk, hf, hz, hrb, hb, hle⟩ := hrel
    have HO := Lib.hid hown; have HK := Lib.hid hk; have HF := Lib.hid hf; have HZ2 := Lib.hid hz; have HRB := Lib.hid hrb; clear hown hk hf hz hrb
    have h3 : w.heap.size + 1 + 1 < wr.heap.size := by have := HS.out; omega
    by_cases hlt : j < l.length
    · obtain ⟨b, off, HA, h1', h2'⟩ := HR.out j hlt
      have hb0 := World.block_lt_of_cell? w _ h1'
      simp only at hb0
      have HRBL : Hid (∀ g off, A = some ⟨g, off, none⟩ → g < w.heap.size) := Lib.hid (fun g off h => by rw [HA] at h; simp at h; omega)
      have h1 := keep_cell hb h1'
      have h2 := keep_cell hb h2'
      subst HA
      clear h1' h2'
      have hb1' : b < wr.heap.size := by omega
      have HT : Hid (l.take (j + 1) = l.take j ++ [l[j]]) := Lib.hid (List.take_succ_eq_append_getElem hlt)
      generalize l[j] = y at *
      go_upto_region 5 with fail
      obtain ⟨W5, hW5⟩ : ∃ W5, W5 = wr.alloc (.cells #[.int .i64 y.1, .bool y.2] 57) := ⟨_, rfl⟩
      have s0 : W5.cell? ⟨wr.heap.size, 0, none⟩ = some (.int .i64 y.1) := by rw [hW5]; simp [go_sem]
      have s1 : W5.cell? ⟨wr.heap.size, 1, none⟩ = some (.bool y.2) := by rw [hW5]; simp [go_sem]
      have hb5 : Below wr.heap.size wr W5 := by rw [hW5]; exact below_box _ _
      have hc5 := keep_cell hb5 hc2
      have HO5 := Lib.hid (row_below HO.out hb5)
      rw [← hW5]
      clear hW5 h1 h2
      have HB5 := Lib.hid hb5; clear hb5
      have hle5 : wr.heap.size ≤ W5.heap.size := HB5.out.size
      have hbase : W.heap.size ≤ W5.heap.size := by omega
      go_wp2_with (at_builtin; go_must (refine appN _ rfl (.tmp 42) (.tmp 48) 22 rfl W.heap.size 55 i0 _ 2 16 Tryz.underlying22 hi hz0 hz1 hz2 rfl (by omega) _ _ _ (by rfl) HO5.out [_, _] rfl (by simp [Value.oneCell']) (by rfl) (by omega) (by omega) hbase ?_); intro g' cap' w1 hown1 hb1 _; have hbW := hb1 _ (Below.refl _ _); have q2 : w1.cell? ⟨w.heap.size + 1 + 1, 2, none⟩ = some v := (hbW.cell (p := ⟨w.heap.size + 1 + 1, 2, none⟩) (by have := HS.out; simp; omega)).trans hc5; have q3 : w1.frozen? ⟨w.heap.size + 1 + 1, 2, none⟩ = false := (hbW.frozen (p := ⟨w.heap.size + 1 + 1, 2, none⟩) (by have := HS.out; simp; omega)).trans ((HB5.out.frozen (p := ⟨w.heap.size + 1 + 1, 2, none⟩) h3).trans (HF.out 2)))
      go_roundw
      case rel =>
        have hS := HS.out
        refine ⟨j + 1, .slice (some ⟨g', 0, none⟩) (j + 1) cap', by omega, by go_num, by simp [go_sem, q2, q3], ?_, ?_, ?_, ?_, ?_, ?_, ?_⟩
        · rw [HT.out, kcells_snoc]
          refine ownsRow_setCell_other hown1 ?_ _
          intro h
          have := (hown1.lt g' rfl).1
          simp [Value.ownBlock] at h; omega
        · intro o ho
          rw [cell_set_ne _ _ _ _ (by simp; omega)]
          exact (hbW.cell (p := ⟨w.heap.size + 1 + 1, o, none⟩) (by simp; omega)).trans ((HB5.out.cell (p := ⟨w.heap.size + 1 + 1, o, none⟩) h3).trans (HK.out o ho))
        · intro o
          rw [frozen_set]
          exact (hbW.frozen (p := ⟨w.heap.size + 1 + 1, o, none⟩) (by simp; omega)).trans ((HB5.out.frozen (p := ⟨w.heap.size + 1 + 1, o, none⟩) h3).trans (HF.out o))
        · exact ((HZ2.out.keep HB5.out).keepB hbW (by omega)).set (by omega)
        · refine RB.set ?_ ?_
          · exact (HRB.out.keep HB5.out).keepB hbW (fun g off h => by have := HRBL.out g off h; omega)
          · intro g off h; have := HRBL.out g off h; omega
        · exact below_set ((keep_below hb HB5.out hb.size).trans (hbW.mono (by omega))) (by omega)
        · have := hbW.size; simp at this ⊢; omega
      case measure => simp [intOf]; omega
    · have hjn : j = l.length := by omega
      subst hjn
      have e0 : wr.cell? ⟨w.heap.size + 1 + 1, 0, none⟩ = some (.int .i64 nm) := (HK.out 0 (by omega)).trans D0.out
      have e1 : wr.cell? ⟨w.heap.size + 1 + 1, 1, none⟩ = some (.int .i64 n) := (HK.out 1 (by omega)).trans D1.out
      have e3 : wr.cell? ⟨w.heap.size + 1 + 1, 3, none⟩ = some (.int .i64 col) := (HK.out 3 (by omega)).trans D3.out
      have e4 : wr.cell? ⟨w.heap.size + 1 + 1, 4, none⟩ = some (.int .i64 op) := (HK.out 4 (by omega)).trans D4.out
      have e5 : wr.cell? ⟨w.heap.size + 1 + 1, 5, none⟩ = some (.string arg) := (HK.out 5 (by omega)).trans D5.out
      have e6 : wr.cell? ⟨w.heap.size + 1 + 1, 6, none⟩ = some (.bool nt) := (HK.out 6 (by omega)).trans D6.out
      have e7 : wr.cell? ⟨w.heap.size + 1 + 1, 7, none⟩ = some (.bool has) := (HK.out 7 (by omega)).trans D7.out
      have e8 : wr.cell? ⟨w.heap.size + 1 + 1, 8, none⟩ = some (.bool whole) := (HK.out 8 (by omega)).trans D8.out
      have e9 : wr.cell? ⟨w.heap.size + 1 + 1, 9, none⟩ = some (.bool each) := (HK.out 9 (by omega)).trans D9.out
      have e10 : wr.cell? ⟨w.heap.size + 1 + 1, 10, none⟩ = some (.string pat) := (HK.out 10 (by omega)).trans D10.out
      have e11 : wr.cell? ⟨w.heap.size + 1 + 1, 11, none⟩ = some (.string wth) := (HK.out 11 (by omega)).trans D11.out
      obtain ⟨A', c', rfl⟩ := row_form HO.out
      have hown := HO.out
      rw [List.take_length] at hown
      have hrb := RB.of_row rfl hown
      obtain ⟨⟨a0, a1, a2, a3, a4, a5, a6, a7, a8, a9, a10, a11⟩, fa⟩ := HZ2.out
      have fd := HF.out
      have HON := Lib.hid hown; have HRB2 := Lib.hid hrb; clear hown hrb
      go_wp2_with fail
      refine bodyPost_ret (v := vL A' c' ⟨nm, n, l, ⟨col, op, arg, nt⟩, has, whole, each, pat, wth⟩) ?_ rfl ⟨A', c', rfl, ?_, ?_⟩
      · simp [results, Tryz.results16, go_sem, vL, a0, a1, a2, a3, a4, a5, a6, a7, a8, a9, a10, a11, fa, e0, e1, e3, e4, e5, e6, e7, e8, e9, e10, e11, hc2]
      · have hne : ∀ g off, A' = some ⟨g, off, none⟩ → g ≠ w.heap.size + 1 := fun g off h => by
          subst h
          have h1 := (HON.out.lt g rfl).1
          have h2 := HS.out
          omega
        (iterate 12 (refine RB.set ?_ hne))
        exact HRB2.out
      · (iterate 12 (refine below_set ?_ (by omega)))
        exact hb
end Go.Proofs.YtckmkhcahnijmaaGreatDoor
