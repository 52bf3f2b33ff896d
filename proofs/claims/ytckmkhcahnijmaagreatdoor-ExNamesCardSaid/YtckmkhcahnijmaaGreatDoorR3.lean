import Derived.Test.YtckmkhcahnijmaaGreatDoorR2
namespace Go.Proofs.YtckmkhcahnijmaaGreatDoor
open Go.RowKit
set_option linter.unusedVariables false
set_option linter.unusedSimpArgs false

theorem once_any (R S c : Nat) (x3 : Value) (w : World) (h3 : w.cell? ⟨R, 3, none⟩ = some x3) (h4 : w.cell? ⟨R, 4, none⟩ = some (.slice (some ⟨S, 0, none⟩) 4 c))
    (s0 : w.cell? ⟨S, 0, none⟩ = some (.string ⟨#[92]⟩)) (s1 : w.cell? ⟨S, 1, none⟩ = some (.string ⟨#[92, 92]⟩)) (s2 : w.cell? ⟨S, 2, none⟩ = some (.string ⟨#[47]⟩)) (s3 : w.cell? ⟨S, 3, none⟩ = some (.string ⟨#[92, 47]⟩))
    (fr : ∀ i, w.frozen? ⟨R, i, none⟩ = false) :
    Calls Tryz.prog 72 #[.pointer (some ⟨R, 0, none⟩)] w fun e w' => e = .returned (.tuple #[]) ∧ ∃ B w1, Below w.heap.size w w1 ∧ BSR w.heap.size w1 B ∧ w' = (w1.setCell ⟨R, 3, none⟩ (.iface 147 (.pointer (some ⟨B, 0, none⟩)))).setCell ⟨R, 4, none⟩ (.slice none 0 0) := by
  have hR := World.block_lt_of_cell? _ _ h3
  simp only at hR
  go_enter Tryz.func72, Tryz.ntmps72
  go_wp2_with (go_at_call 83; refine (build_any R S c _ h4 s0 s1 s2 s3).mono ?_; rintro e w2 ⟨B, rfl, hb2, hB⟩; have k3 := keep_cell hb2 h3; have k4 := keep_cell hb2 h4; have f3 := (hb2.frozen (p := ⟨R, 3, none⟩) hR).trans (fr 3); have f4 := (hb2.frozen (p := ⟨R, 4, none⟩) hR).trans (fr 4))
  go_end0
  exact ⟨rfl, B, w2, hb2, hB, rfl⟩

theorem load81 (R : Nat) (w : World) (h0 : w.cell? ⟨R, 0, none⟩ = some (.int .u32 0)) : Calls Tryz.prog 81 #[.pointer (some ⟨R, 0, none⟩)] w fun e w' => e = .returned (.bool false) ∧ w' = w := by
  have hl := run_call_load (P := Tryz.prog) Tryz.func90 (by kernel_rfl) (by kernel_rfl) (by kernel_rfl) .u32 (by kernel_rfl) (w := w) (a := ⟨R, 0, none⟩) (x := 0) h0
  go_enter Tryz.func81, Tryz.ntmps81
  go_wp2_with fail
  go_ret
  exact ⟨rfl, rfl⟩
set_option maxRecDepth 100000 in
set_option maxHeartbeats 1600000 in
theorem slow_any (R S c : Nat) (x3 : Value) (w : World) (h0 : w.cell? ⟨R, 0, none⟩ = some (.int .u32 0)) (h1 : w.cell? ⟨R, 1, none⟩ = some (.int .i32 0)) (h3 : w.cell? ⟨R, 3, none⟩ = some x3) (h4 : w.cell? ⟨R, 4, none⟩ = some (.slice (some ⟨S, 0, none⟩) 4 c))
    (s0 : w.cell? ⟨S, 0, none⟩ = some (.string ⟨#[92]⟩)) (s1 : w.cell? ⟨S, 1, none⟩ = some (.string ⟨#[92, 92]⟩)) (s2 : w.cell? ⟨S, 2, none⟩ = some (.string ⟨#[47]⟩)) (s3 : w.cell? ⟨S, 3, none⟩ = some (.string ⟨#[92, 47]⟩))
    (fr : ∀ i, w.frozen? ⟨R, i, none⟩ = false) (hRS : S ≠ R) :
    Calls Tryz.prog 82 #[.pointer (some ⟨R, 0, none⟩), .func (.func 72) #[.pointer (some ⟨R, 0, none⟩)] #[]] w fun e w' => e = .returned (.tuple #[]) ∧
      ∃ B, BSR w.heap.size w' B ∧ w'.cell? ⟨R, 3, none⟩ = some (.iface 147 (.pointer (some ⟨B, 0, none⟩))) ∧ Below R w w' := by
  have hR := World.block_lt_of_cell? _ _ h3
  simp only at hR
  obtain ⟨wl, hwl⟩ : ∃ wl, wl = w.setCell ⟨R, 1, none⟩ (.int .i32 1) := ⟨_, rfl⟩
  have hszl : wl.heap.size = w.heap.size := by subst hwl; simp [World.setCell]
  have oth : ∀ (p : Addr) (v : Value), p ≠ ⟨R, 1, none⟩ → w.cell? p = some v → wl.cell? p = some v := fun p v hp h => by rw [hwl]; exact (World.cell?_setCell_other _ _ _ _ (Ne.symm hp)).trans h
  have l0 := oth ⟨R, 0, none⟩ _ (by simp) h0
  have l3 := oth ⟨R, 3, none⟩ _ (by simp) h3
  have l4 := oth ⟨R, 4, none⟩ _ (by simp) h4
  have ls0 := oth _ _ (by simp [hRS]) s0
  have ls1 := oth _ _ (by simp [hRS]) s1
  have ls2 := oth _ _ (by simp [hRS]) s2
  have ls3 := oth _ _ (by simp [hRS]) s3
  have lfr : ∀ i, wl.frozen? ⟨R, i, none⟩ = false := fun i => by subst hwl; rw [World.frozen?_setCell]; exact fr i
  have hnot : ∀ (x : Bool) (w : World), (Op.unary .not (.bool x)).run Tryz.prog w = .ok (.bool (!x)) w := fun _ _ => rfl
  have l1 : wl.cell? ⟨R, 1, none⟩ = some (.int .i32 1) := by rw [hwl]; exact World.cell?_setCell_same _ _ _ h1
  have HWL := Lib.hid hwl; clear hwl
  go_enter_defers Tryz.func82, Tryz.ntmps82
  go_wp2_with (go_at_call 91; refine (lock_free ⟨R, 1, none⟩ _ h1 (fr 1)).mono ?_; rintro e w' ⟨rfl, rfl⟩; rw [← HWL.out])
  go_wp2_with (go_at_call 81; refine (load81 R _ l0).mono ?_; rintro e w' ⟨rfl, rfl⟩)
  go_wp2_with (go_at_call 72; refine (once_any R S c x3 _ l3 l4 ls0 ls1 ls2 ls3 lfr).mono ?_; rintro e w'' ⟨rfl, B, w1, hb1, hB, rfl⟩)
  have hb1s := hb1.size
  have z1 : w1.cell? ⟨R, 0, none⟩ = some (.int .u32 0) := keep_cell hb1 l0
  have z2 : w1.cell? ⟨R, 1, none⟩ = some (.int .i32 1) := keep_cell hb1 l1
  have z3 := keep_cell hb1 l3
  have f1 : ∀ i, w1.frozen? ⟨R, i, none⟩ = false := fun i => (hb1.frozen (p := ⟨R, i, none⟩) (by simp; omega)).trans (lfr i)
  refine leaves_cons (f := 93) (args := #[.pointer (some ⟨R, 0, none⟩), .bool true]) (by simp) (by simp [go_sem]) ?_
  refine (store_deferred ⟨R, 0, none⟩ (.int .u32 0) .returning _ ?_ (by simp [f1])).mono ?_
  · exact (World.cell?_setCell_other _ _ _ _ (by simp)).trans ((World.cell?_setCell_other _ _ _ _ (by simp)).trans z1)
  rintro e u' w'' ⟨rfl, rfl, rfl⟩
  refine leaves_cons (f := 92) (args := #[.pointer (some ⟨R, 1, none⟩)]) (by simp [settle]) (by simp [go_sem]) ?_
  refine (unlock_deferred ⟨R, 1, none⟩ _ _ ?_ (by simp [f1])).mono ?_
  · refine (World.cell?_setCell_other _ _ _ _ (by simp)).trans ?_
    rw [World.cell?_drew]
    exact (World.cell?_setCell_other _ _ _ _ (by simp)).trans ((World.cell?_setCell_other _ _ _ _ (by simp)).trans z2)
  rintro e u' w'' ⟨rfl, rfl, rfl⟩
  simp [Leaves, settle, results, Tryz.results82]
  have hRw : R < w'.heap.size := by omega
  have hB' : BSR w.heap.size w1 B := hszl ▸ hB
  refine ⟨B, ((((hB'.set (by simpa using hR) _).set (by simpa using hR) _).drew).set (by simpa using hR) _).set (by simpa using hR) _, ?_, ?_⟩
  · refine (World.cell?_setCell_other _ _ _ _ (by simp)).trans ((World.cell?_setCell_other _ _ _ _ (by simp)).trans ?_)
    rw [World.cell?_drew]
    exact (World.cell?_setCell_other _ _ _ _ (by simp)).trans (World.cell?_setCell_same _ _ _ z3)
  · have hwb : Below R w w' := by rw [HWL.out]; exact Below.setCell (Below.refl R w) (p := ⟨R, 1, none⟩) (Nat.le_refl R) _
    exact (((((hwb.trans (hb1.mono (by omega))).setCell (Nat.le_refl _) _).setCell (Nat.le_refl _) _).drew).setCell (Nat.le_refl _) _).setCell (Nat.le_refl _) _
theorem do_any (R S c : Nat) (x3 : Value) (w : World) (h0 : w.cell? ⟨R, 0, none⟩ = some (.int .u32 0)) (h1 : w.cell? ⟨R, 1, none⟩ = some (.int .i32 0)) (h3 : w.cell? ⟨R, 3, none⟩ = some x3) (h4 : w.cell? ⟨R, 4, none⟩ = some (.slice (some ⟨S, 0, none⟩) 4 c))
    (s0 : w.cell? ⟨S, 0, none⟩ = some (.string ⟨#[92]⟩)) (s1 : w.cell? ⟨S, 1, none⟩ = some (.string ⟨#[92, 92]⟩)) (s2 : w.cell? ⟨S, 2, none⟩ = some (.string ⟨#[47]⟩)) (s3 : w.cell? ⟨S, 3, none⟩ = some (.string ⟨#[92, 47]⟩))
    (fr : ∀ i, w.frozen? ⟨R, i, none⟩ = false) (hRS : S ≠ R) :
    Calls Tryz.prog 71 #[.pointer (some ⟨R, 0, none⟩), .func (.func 72) #[.pointer (some ⟨R, 0, none⟩)] #[]] w fun e w' => e = .returned (.tuple #[]) ∧
      ∃ B, BSR w.heap.size w' B ∧ w'.cell? ⟨R, 3, none⟩ = some (.iface 147 (.pointer (some ⟨B, 0, none⟩))) ∧ Below R w w' := by
  have hnot : ∀ (x : Bool) (w : World), (Op.unary .not (.bool x)).run Tryz.prog w = .ok (.bool (!x)) w := fun _ _ => rfl
  go_enter Tryz.func71, Tryz.ntmps71
  go_wp2_with (go_at_call 81; refine (load81 R _ h0).mono ?_; rintro e w' ⟨rfl, rfl⟩)
  go_wp2_with (go_at_call 82; refine (slow_any R S c x3 _ h0 h1 h3 h4 s0 s1 s2 s3 fr hRS).mono ?_; rintro e w'' ⟨rfl, B, hB, k3, hb⟩)
  go_end0
  exact ⟨rfl, B, hB, k3, hb⟩
def RP (w : World) (R S c : Nat) : Prop := w.cell? ⟨R, 0, none⟩ = some (.int .u32 0) ∧ w.cell? ⟨R, 1, none⟩ = some (.int .i32 0) ∧ w.cell? ⟨R, 3, none⟩ = some .nilIface ∧ w.cell? ⟨R, 4, none⟩ = some (.slice (some ⟨S, 0, none⟩) 4 c) ∧
  w.cell? ⟨S, 0, none⟩ = some (.string ⟨#[92]⟩) ∧ w.cell? ⟨S, 1, none⟩ = some (.string ⟨#[92, 92]⟩) ∧ w.cell? ⟨S, 2, none⟩ = some (.string ⟨#[47]⟩) ∧ w.cell? ⟨S, 3, none⟩ = some (.string ⟨#[92, 47]⟩) ∧ ∀ i, w.frozen? ⟨R, i, none⟩ = false
theorem newrep_any (S : Nat) (w : World) 
    (s0 : w.cell? ⟨S, 0, none⟩ = some (.string ⟨#[92]⟩)) (s1 : w.cell? ⟨S, 1, none⟩ = some (.string ⟨#[92, 92]⟩)) (s2 : w.cell? ⟨S, 2, none⟩ = some (.string ⟨#[47]⟩)) (s3 : w.cell? ⟨S, 3, none⟩ = some (.string ⟨#[92, 47]⟩)) :
    Calls Tryz.prog 59 #[.slice (some ⟨S, 0, none⟩) 4 4] w fun e w' => ∃ c, e = .returned (.pointer (some ⟨w.heap.size + 1, 0, none⟩)) ∧ Below w.heap.size w w' ∧ RP w' (w.heap.size + 1) w.heap.size c := by
  go_enter Tryz.func59, Tryz.ntmps59
  go_wp2_with fail
  go_ret
  refine ⟨((Question.appendCap 4 0 9).cut (w.tape w.drawn (Question.appendCap 4 0 9))), rfl, Below.drew (below_box2 _ _ _), ?_⟩
  unfold RP
  simp only [World.cell?_drew, World.frozen?_drew]
  refine ⟨?_, ?_, ?_, ?_, ?_, ?_, ?_, ?_, fun i => ?_⟩
  · rw [cell_new _ _ _ _ _ (by simp)]; rfl
  · rw [cell_new _ _ _ _ _ (by simp)]; rfl
  · rw [cell_new _ _ _ _ _ (by simp)]; rfl
  · rw [cell_new _ _ _ _ _ (by simp)]; rfl
  · rw [cell_old _ _ _ (by simp), cell_new _ _ _ _ _ rfl, Array.getElem?_append_left (by simp)]; rfl
  · rw [cell_old _ _ _ (by simp), cell_new _ _ _ _ _ rfl, Array.getElem?_append_left (by simp)]; rfl
  · rw [cell_old _ _ _ (by simp), cell_new _ _ _ _ _ rfl, Array.getElem?_append_left (by simp)]; rfl
  · rw [cell_old _ _ _ (by simp), cell_new _ _ _ _ _ rfl, Array.getElem?_append_left (by simp)]; rfl
  · exact World.frozen?_alloc_at _ _ _ _ (by simp)
end Go.Proofs.YtckmkhcahnijmaaGreatDoor
