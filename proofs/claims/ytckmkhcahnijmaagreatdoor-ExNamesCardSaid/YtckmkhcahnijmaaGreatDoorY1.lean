/- A line among the arguments, opened: what its cells hold. -/
import Derived.Test.YtckmkhcahnijmaaGreatDoorG
import Derived.Lib.SmallJoins
namespace Go.Proofs.YtckmkhcahnijmaaGreatDoor
open Go.ChangeShapes Go.WideShapes Go.RowKit Go.Deep Go.Joins
set_option linter.unusedVariables false
set_option linter.unusedSimpArgs false

theorem cs3 : Tryz.prog.cellsOf 3 = 1 := by kernel_rfl
theorem cs4 : Tryz.prog.cellsOf 4 = 1 := by kernel_rfl
theorem cs9 : Tryz.prog.cellsOf 9 = 1 := by kernel_rfl
theorem cs22 : Tryz.prog.cellsOf 22 = 1 := by kernel_rfl
theorem cs24 : Tryz.prog.cellsOf 24 = 4 := by kernel_rfl
theorem cs26 : Tryz.prog.cellsOf 26 = 12 := by kernel_rfl
theorem cs55 : Tryz.prog.cellsOf 55 = 2 := by kernel_rfl

section
variable {H : Type} {enc : TypeId × Value → H} {w : World} {base : Nat} {spare : Nat → Bool} {held : Bool}
theorem open_bys {n : Nat} {v : Value} {y : DataW H × List MemPlace} (h : DataW.trod enc Tryz.prog w 0 (fun _ => true) held n 22 [v] = some y) :
    ∃ (A : Option Addr) (l : List (Int × Bool)) (c : Nat), v = .slice A l.length c ∧ RB w A l ∧ l.length ≤ c ∧ c ≤ maxLen := by
  rcases open_slice Tryz.underlying22 h with ⟨h0, _⟩ | ⟨a, len, cap, m, n', D, Pl, hcs, hb, hl, hm, hmm, hx, hi⟩
  · exact ⟨none, [], 0, by simpa using h0, RB.nil _ _, Nat.le_refl _, by unfold maxLen; omega⟩
  · have hcell : ∀ i, i < len → ∃ p : Int × Bool, w.cell? (a.add (i * 2)) = some (.int .i64 p.1) ∧ w.cell? (a.add (i * 2 + 1)) = some (.bool p.2) := fun i hil => by
      obtain ⟨cs', hc, ht⟩ := hi i (by rw [hmm]; simp; omega)
      rw [cs55] at hc
      obtain ⟨_, hlen, hat⟩ := World.cells?_some hc
      match cs', hlen with
      | [c0, c1], _ =>
        obtain ⟨xs, n2, _, hx2, _, hxl, hg⟩ := DataW.trod_struct Tryz.underlying55 ht
        match xs, hxl with
        | [x0, x1], _ =>
          have g0 : DataW.trod enc Tryz.prog w 0 (fun _ => true) held n2 3 [c0] = some x0 := by simpa [cs3] using hg 0 _ rfl
          have g1 : DataW.trod enc Tryz.prog w 0 (fun _ => true) held n2 4 [c1] = some x1 := by simpa [cs4] using hg 1 _ rfl
          obtain ⟨z, e0, _, _⟩ := DataW.trod_int Tryz.underlying3 g0
          obtain ⟨b, e1, _⟩ := DataW.trod_bool Tryz.underlying4 g1
          simp only [List.cons.injEq, and_true] at e0 e1
          subst e0 e1
          have h0 := hat 0 (by omega)
          have h1 := hat 1 (by omega)
          rw [Go.Deep.add_add] at h0 h1
          exact ⟨(z, b), by simpa using h0, by simpa using h1⟩
    let F : Nat → Int × Bool := fun i => if h : i < len then Classical.choose (hcell i h) else (0, false)
    have hF : ∀ i, i < len → w.cell? (a.add (i * 2)) = some (.int .i64 (F i).1) ∧ w.cell? (a.add (i * 2 + 1)) = some (.bool (F i).2) := fun i hil => by
      have := Classical.choose_spec (hcell i hil)
      simp only [F, hil, dif_pos]
      exact this
    refine ⟨some a, (List.range len).map F, cap, by simpa using hcs, fun j hj => ?_, by simpa using hl, hm⟩
    have hj' : j < len := by simpa using hj
    have h1 := hF j hj'
    rw [List.getElem_map, List.getElem_range]
    obtain ⟨b, off, spot⟩ := a
    have hspot : spot = none := by simpa [Addr.add] using World.cell?_spot (hF 0 (by omega)).1
    subst hspot
    rw [Go.WideShapes.add_plain, Go.WideShapes.add_plain] at h1
    exact ⟨b, off, rfl, h1.1, h1.2⟩
set_option maxRecDepth 100000 in
theorem open_line {r : Reach} {b0 : Nat} {v : Value} {d : DataW H} {p : List MemPlace} (hv : Value.okWide Tryz.prog w r b0 26 v) (h : DataW.Trod enc Tryz.prog w 0 (fun _ => true) held 26 v d p) :
    ∃ (A : Option Addr) (c : Nat) (x : Ln), v = vL A c x ∧ RB w A x.bys ∧ x.bys.length ≤ c := by
  obtain ⟨cs, rfl, hsz⟩ := okWide_struct Tryz.underlying26 hv
  obtain ⟨l⟩ := cs
  match l, hsz.trans cs26 with
  | [v0, v1, v2, v3, v4, v5, v6, v7, v8, v9, v10, v11], _ =>
    obtain ⟨fuel, hf⟩ := h
    obtain ⟨xs, n, _, hx, _, hlen, hg⟩ := DataW.trod_struct Tryz.underlying26 hf
    match xs, hlen with
    | [y0, y1, y2, y3, y4, y5, y6, y7, y8], _ =>
      have g0 : DataW.trod enc Tryz.prog w 0 (fun _ => true) held n 3 [v0] = some y0 := by simpa [cs3, Value.cells] using hg 0 _ rfl
      have g1 : DataW.trod enc Tryz.prog w 0 (fun _ => true) held n 3 [v1] = some y1 := by simpa [cs3, Value.cells] using hg 1 _ rfl
      have g2 : DataW.trod enc Tryz.prog w 0 (fun _ => true) held n 22 [v2] = some y2 := by simpa [cs22, Value.cells] using hg 2 _ rfl
      have g3 : DataW.trod enc Tryz.prog w 0 (fun _ => true) held n 24 [v3, v4, v5, v6] = some y3 := by simpa [cs24, Value.cells] using hg 3 _ rfl
      have g4 : DataW.trod enc Tryz.prog w 0 (fun _ => true) held n 4 [v7] = some y4 := by simpa [cs4, Value.cells] using hg 4 _ rfl
      have g5 : DataW.trod enc Tryz.prog w 0 (fun _ => true) held n 4 [v8] = some y5 := by simpa [cs4, Value.cells] using hg 5 _ rfl
      have g6 : DataW.trod enc Tryz.prog w 0 (fun _ => true) held n 4 [v9] = some y6 := by simpa [cs4, Value.cells] using hg 6 _ rfl
      have g7 : DataW.trod enc Tryz.prog w 0 (fun _ => true) held n 9 [v10] = some y7 := by simpa [cs9, Value.cells] using hg 7 _ rfl
      have g8 : DataW.trod enc Tryz.prog w 0 (fun _ => true) held n 9 [v11] = some y8 := by simpa [cs9, Value.cells] using hg 8 _ rfl
      obtain ⟨us, n3, _, _, _, hul, hug⟩ := DataW.trod_struct Tryz.underlying24 g3
      match us, hul with
      | [u0, u1, u2, u3], _ =>
        have k0 : DataW.trod enc Tryz.prog w 0 (fun _ => true) held n3 3 [v3] = some u0 := by simpa [cs3] using hug 0 _ rfl
        have k1 : DataW.trod enc Tryz.prog w 0 (fun _ => true) held n3 3 [v4] = some u1 := by simpa [cs3] using hug 1 _ rfl
        have k2 : DataW.trod enc Tryz.prog w 0 (fun _ => true) held n3 9 [v5] = some u2 := by simpa [cs9] using hug 2 _ rfl
        have k3 : DataW.trod enc Tryz.prog w 0 (fun _ => true) held n3 4 [v6] = some u3 := by simpa [cs4] using hug 3 _ rfl
        obtain ⟨z0, e0, _, _⟩ := DataW.trod_int Tryz.underlying3 g0
        obtain ⟨z1, e1, _, _⟩ := DataW.trod_int Tryz.underlying3 g1
        obtain ⟨A, l, c, rfl, hrb, hlc, hcm⟩ := open_bys g2
        obtain ⟨z3, e3, _, _⟩ := DataW.trod_int Tryz.underlying3 k0
        obtain ⟨z4, e4, _, _⟩ := DataW.trod_int Tryz.underlying3 k1
        obtain ⟨z5, e5, _, _⟩ := DataW.trod_string Tryz.underlying9 k2
        obtain ⟨z6, e6, _⟩ := DataW.trod_bool Tryz.underlying4 k3
        obtain ⟨z7, e7, _⟩ := DataW.trod_bool Tryz.underlying4 g4
        obtain ⟨z8, e8, _⟩ := DataW.trod_bool Tryz.underlying4 g5
        obtain ⟨z9, e9, _⟩ := DataW.trod_bool Tryz.underlying4 g6
        obtain ⟨z10, e10, _, _⟩ := DataW.trod_string Tryz.underlying9 g7
        obtain ⟨z11, e11, _, _⟩ := DataW.trod_string Tryz.underlying9 g8
        simp only [List.cons.injEq, and_true] at e0 e1 e3 e4 e5 e6 e7 e8 e9 e10 e11
        subst e0 e1 e3 e4 e5 e6 e7 e8 e9 e10 e11
        exact ⟨A, c, ⟨z0, z1, l, ⟨z3, z4, z5, z6⟩, z7, z8, z9, z10, z11⟩, rfl, hrb, hlc⟩
end
end Go.Proofs.YtckmkhcahnijmaaGreatDoor
