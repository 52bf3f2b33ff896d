import Derived.Test.YtckmkhcahnijmaaGreatDoorR1
import Derived.Laws.Tables
import Derived.Laws.IdiomStrings
namespace Go.Proofs.YtckmkhcahnijmaaGreatDoor
open Go.RowKit
set_option linter.unusedVariables false
set_option linter.unusedSimpArgs false

def brow (v : Value) : Array Value := (Array.replicate 257 (Value.slice none 0 0)).setIfInBounds 256 v
theorem zero146 : Tryz.zeroCells146 = Array.replicate 257 (Value.slice none 0 0) := by kernel_rfl
theorem row_store (z : Array Value) (i : Nat) (w0 : World) (t : TypeId) (v : Value) (hz : ∀ x ∈ z.toList, x.oneCell' = true) (hv : v.oneCell' = true) :
    (storeCells ⟨w0.heap.size, 0, none⟩ (z.toList.set i v)).run Tryz.prog (w0.alloc (.cells z t)) = .ok () (w0.alloc (.cells (z.setIfInBounds i v) t)) := by
  have h := run_storeCells_from (P := Tryz.prog) w0.heap.size t (z.toList.set i v) 0 z (w0.alloc (.cells z t)) (by simp [World.alloc, -World.alloc_eq]) (by simp) (by
    intro x hx
    rcases List.mem_or_eq_of_mem_set hx with h | h
    · exact hz x h
    · subst h; exact hv)
  rw [h]; congr 1
  simp only [World.alloc, World.setRow]
  congr 1
  apply Array.ext
  · simp
  · intro k h1 h2
    simp only [Array.getElem_modify]
    split
    · rename_i hk; subst hk; simp [← Array.toList_setIfInBounds]
    · have hn : ¬ k = w0.heap.size := fun e => by simp_all
      have hk : k < w0.heap.size := by simp at h1; omega
      simp [Array.getElem_push, hk]
theorem brow_store (w0 : World) (g : Nat) (hg : g = w0.heap.size) (v : Value) (hv : v.oneCell' = true) :
    (storeCells ⟨g, 0, none⟩ (Tryz.zeroCells146.toList.set 256 v)).run Tryz.prog (w0.alloc (.cells Tryz.zeroCells146 146)) = .ok () (w0.alloc (.cells (brow v) 146)) := by
  subst hg
  rw [zero146]
  exact row_store (Array.replicate 257 (Value.slice none 0 0)) 256 w0 146 v (by intro x hx; rw [Array.toList_replicate] at hx; obtain rfl := List.eq_of_mem_replicate hx; rfl) hv
theorem brow_at (v : Value) (i : Nat) (hi : i < 256) : (brow v)[i]? = some (Value.slice none 0 0) := by
  unfold brow
  rw [Array.getElem?_setIfInBounds_ne (by omega), Array.getElem?_replicate, if_pos (by omega)]
theorem brow_256 (v : Value) : (brow v)[256]? = some v := by
  unfold brow
  rw [Array.getElem?_setIfInBounds_self_of_lt (by simp)]

theorem cell_new (w : World) (c : Array Value) (E : TypeId) (g i : Nat) (hg : g = w.heap.size) : (w.alloc (.cells c E)).cell? ⟨g, i, none⟩ = c[i]? := by
  subst hg; simp [World.cell?, World.alloc, -World.alloc_eq]
theorem cell_old (w : World) (o : Obj) (a : Addr) (h : a.block < w.heap.size) : (w.alloc o).cell? a = w.cell? a := by
  have := (below_box w o).cell h; exact this
theorem conv_s (w : World) (s : ByteArray) (n : Nat) (hn : s.size = n) : ∃ c w1, (convert 9 67 (.string s)).run Tryz.prog w = .ok (.slice (some ⟨w.heap.size, 0, none⟩) n c) w1 ∧ Below w.heap.size w w1 ∧ w.heap.size < w1.heap.size ∧
    ∀ j (hj : j < s.data.size), w1.cell? ⟨w.heap.size, j, none⟩ = some (.int .u8 (s.data[j].toNat : Int)) := by
  subst hn
  refine ⟨_, _, run_bytes_of_string w 9 67 5 s Tryz.underlying9 Tryz.underlying67 Tryz.underlying5, (Below.refl _ _).drew.alloc (Nat.le_refl _) _, by simp [World.alloc, -World.alloc_eq], fun j hj => ?_⟩
  rw [← bytesRow_at s (grownCap w s.size 0 5) j hj]
  simp [World.cell?, World.alloc, -World.alloc_eq, World.drew, -World.drew_eq]
def BR (w wx : World) (n : Nat) (a b x47 x92 : Value) : Prop :=
  Below w.heap.size w wx ∧ w.heap.size + 2 ≤ wx.heap.size ∧ wx.cell? ⟨w.heap.size, 0, none⟩ = some a ∧ wx.cell? ⟨w.heap.size, 1, none⟩ = some b ∧
  (∀ i, i < 256 → i ≠ 47 → i ≠ 92 → wx.cell? ⟨w.heap.size + 1, i, none⟩ = some (.slice none 0 0)) ∧ wx.cell? ⟨w.heap.size + 1, 47, none⟩ = some x47 ∧ wx.cell? ⟨w.heap.size + 1, 92, none⟩ = some x92 ∧
  wx.cell? ⟨w.heap.size + 1, 256, none⟩ = some (.slice (some ⟨w.heap.size, 0, none⟩) n 2) ∧
  (∀ i, wx.frozen? ⟨w.heap.size, i, none⟩ = false) ∧ ∀ i, wx.frozen? ⟨w.heap.size + 1, i, none⟩ = false
theorem BR.s0 {w wx : World} {n : Nat} {a b x y : Value} (h : BR w wx n a b x y) (v : Value) : BR w (wx.setCell ⟨w.heap.size, 0, none⟩ v) n v b x y := by
  obtain ⟨h1, h2, h3, h4, h5, h6, h7, h8, h9, h10⟩ := h
  refine ⟨h1.setCell (by simp) _, by simpa [World.setCell] using h2, ?_, ?_, fun i hi i1 i2 => ?_, ?_, ?_, ?_, fun i => by rw [World.frozen?_setCell]; exact h9 i, fun i => by rw [World.frozen?_setCell]; exact h10 i⟩
  all_goals first
    | (refine Eq.trans (World.cell?_setCell_other _ _ _ _ ?_) (by assumption) <;> (simp <;> omega))
    | (refine Eq.trans (World.cell?_setCell_other _ _ _ _ ?_) (h5 _ hi i1 i2) <;> (simp <;> omega))
    | exact World.cell?_setCell_same _ _ _ (by assumption)
    | skip
theorem BR.s1 {w wx : World} {n : Nat} {a b x y : Value} (h : BR w wx n a b x y) (v : Value) : BR w (wx.setCell ⟨w.heap.size, 1, none⟩ v) n a v x y := by
  obtain ⟨h1, h2, h3, h4, h5, h6, h7, h8, h9, h10⟩ := h
  refine ⟨h1.setCell (by simp) _, by simpa [World.setCell] using h2, ?_, ?_, fun i hi i1 i2 => ?_, ?_, ?_, ?_, fun i => by rw [World.frozen?_setCell]; exact h9 i, fun i => by rw [World.frozen?_setCell]; exact h10 i⟩
  all_goals first
    | (refine Eq.trans (World.cell?_setCell_other _ _ _ _ ?_) (by assumption) <;> (simp <;> omega))
    | (refine Eq.trans (World.cell?_setCell_other _ _ _ _ ?_) (h5 _ hi i1 i2) <;> (simp <;> omega))
    | exact World.cell?_setCell_same _ _ _ (by assumption)
    | skip
theorem BR.s47 {w wx : World} {n : Nat} {a b x y : Value} (h : BR w wx n a b x y) (v : Value) : BR w (wx.setCell ⟨w.heap.size + 1, 47, none⟩ v) n a b v y := by
  obtain ⟨h1, h2, h3, h4, h5, h6, h7, h8, h9, h10⟩ := h
  refine ⟨h1.setCell (by simp) _, by simpa [World.setCell] using h2, ?_, ?_, fun i hi i1 i2 => ?_, ?_, ?_, ?_, fun i => by rw [World.frozen?_setCell]; exact h9 i, fun i => by rw [World.frozen?_setCell]; exact h10 i⟩
  all_goals first
    | (refine Eq.trans (World.cell?_setCell_other _ _ _ _ ?_) (by assumption) <;> (simp <;> omega))
    | (refine Eq.trans (World.cell?_setCell_other _ _ _ _ ?_) (h5 _ hi i1 i2) <;> (simp <;> omega))
    | exact World.cell?_setCell_same _ _ _ (by assumption)
    | skip
theorem BR.s92 {w wx : World} {n : Nat} {a b x y : Value} (h : BR w wx n a b x y) (v : Value) : BR w (wx.setCell ⟨w.heap.size + 1, 92, none⟩ v) n a b x v := by
  obtain ⟨h1, h2, h3, h4, h5, h6, h7, h8, h9, h10⟩ := h
  refine ⟨h1.setCell (by simp) _, by simpa [World.setCell] using h2, ?_, ?_, fun i hi i1 i2 => ?_, ?_, ?_, ?_, fun i => by rw [World.frozen?_setCell]; exact h9 i, fun i => by rw [World.frozen?_setCell]; exact h10 i⟩
  all_goals first
    | (refine Eq.trans (World.cell?_setCell_other _ _ _ _ ?_) (by assumption) <;> (simp <;> omega))
    | (refine Eq.trans (World.cell?_setCell_other _ _ _ _ ?_) (h5 _ hi i1 i2) <;> (simp <;> omega))
    | exact World.cell?_setCell_same _ _ _ (by assumption)
    | skip
theorem BR.s256 {w wx : World} {n : Nat} {a b x y : Value} (h : BR w wx n a b x y) (m : Nat) : BR w (wx.setCell ⟨w.heap.size + 1, 256, none⟩ (.slice (some ⟨w.heap.size, 0, none⟩) m 2)) m a b x y := by
  obtain ⟨h1, h2, h3, h4, h5, h6, h7, h8, h9, h10⟩ := h
  refine ⟨h1.setCell (by simp) _, by simpa [World.setCell] using h2, ?_, ?_, fun i hi i1 i2 => ?_, ?_, ?_, ?_, fun i => by rw [World.frozen?_setCell]; exact h9 i, fun i => by rw [World.frozen?_setCell]; exact h10 i⟩
  all_goals first
    | (refine Eq.trans (World.cell?_setCell_other _ _ _ _ ?_) (by assumption) <;> (simp <;> omega))
    | (refine Eq.trans (World.cell?_setCell_other _ _ _ _ ?_) (h5 _ hi i1 i2) <;> (simp <;> omega))
    | exact World.cell?_setCell_same _ _ _ (by assumption)
    | skip
theorem BR.keep {w wx wy : World} {n : Nat} {a b x y : Value} (h : BR w wx n a b x y) (hb : Below wx.heap.size wx wy) : BR w wy n a b x y := by
  obtain ⟨h1, h2, h3, h4, h5, h6, h7, h8, h9, h10⟩ := h
  refine ⟨keep_below h1 hb (by omega), Nat.le_trans h2 hb.size, keep_cell hb h3, keep_cell hb h4, fun i hi i1 i2 => keep_cell hb (h5 i hi i1 i2), keep_cell hb h6, keep_cell hb h7, keep_cell hb h8, fun i => ?_, fun i => ?_⟩
  · rw [hb.frozen (by simp; omega)]; exact h9 i
  · rw [hb.frozen (by simp; omega)]; exact h10 i
/-- The replacer of '\\' and '/': what its block reads. -/
def BSR (b : Nat) (w : World) (B : Nat) : Prop :=
  (∀ i, i < 256 → i ≠ 47 → i ≠ 92 → w.cell? ⟨B, i, none⟩ = some (.slice none 0 0)) ∧
  ∃ P Q T c1 c2, (b ≤ B ∧ b ≤ P ∧ b ≤ Q ∧ b ≤ T) ∧ w.cell? ⟨B, 47, none⟩ = some (.slice (some ⟨P, 0, none⟩) 2 c1) ∧ w.cell? ⟨P, 0, none⟩ = some (.int .u8 92) ∧ w.cell? ⟨P, 1, none⟩ = some (.int .u8 47) ∧
    w.cell? ⟨B, 92, none⟩ = some (.slice (some ⟨Q, 0, none⟩) 2 c2) ∧ w.cell? ⟨Q, 0, none⟩ = some (.int .u8 92) ∧ w.cell? ⟨Q, 1, none⟩ = some (.int .u8 92) ∧
    w.cell? ⟨B, 256, none⟩ = some (.slice (some ⟨T, 0, none⟩) 2 2) ∧ w.cell? ⟨T, 0, none⟩ = some (.string ⟨#[47]⟩) ∧ w.cell? ⟨T, 1, none⟩ = some (.string ⟨#[92]⟩)
theorem BSR.keep {b : Nat} {w w1 : World} {B : Nat} (h : BSR b w B) (hb : Below w.heap.size w w1) : BSR b w1 B := by
  obtain ⟨h1, P, Q, T, c1, c2, k0, k1, k2, k3, k4, k5, k6, k7, k8, k9⟩ := h
  exact ⟨fun i a b c => keep_cell hb (h1 i a b c), P, Q, T, c1, c2, k0, keep_cell hb k1, keep_cell hb k2, keep_cell hb k3, keep_cell hb k4, keep_cell hb k5, keep_cell hb k6, keep_cell hb k7, keep_cell hb k8, keep_cell hb k9⟩
theorem far_set {w : World} {a p : Addr} {u v : Value} (h : w.cell? p = some u) (hb : a.block < p.block) : (w.setCell a v).cell? p = some u :=
  (World.cell?_setCell_other _ _ _ _ (by intro e; rw [e] at hb; omega)).trans h
theorem BSR.set {b : Nat} {w : World} {B : Nat} (h : BSR b w B) {a : Addr} (ha : a.block < b) (v : Value) : BSR b (w.setCell a v) B := by
  obtain ⟨h1, P, Q, T, c1, c2, k0, k1, k2, k3, k4, k5, k6, k7, k8, k9⟩ := h
  obtain ⟨b1, b2, b3, b4⟩ := k0
  exact ⟨fun i x y z => far_set (h1 i x y z) (by simp; omega), P, Q, T, c1, c2, ⟨b1, b2, b3, b4⟩, far_set k1 (by simp; omega), far_set k2 (by simp; omega), far_set k3 (by simp; omega), far_set k4 (by simp; omega),
    far_set k5 (by simp; omega), far_set k6 (by simp; omega), far_set k7 (by simp; omega), far_set k8 (by simp; omega), far_set k9 (by simp; omega)⟩
theorem BSR.drew {b : Nat} {w : World} {B : Nat} (h : BSR b w B) : BSR b w.drew B := h
set_option maxRecDepth 100000 in
set_option maxHeartbeats 1000000 in
theorem build_any (R S c : Nat) (w : World) (h4 : w.cell? ⟨R, 4, none⟩ = some (.slice (some ⟨S, 0, none⟩) 4 c)) 
    (s0 : w.cell? ⟨S, 0, none⟩ = some (.string ⟨#[92]⟩)) (s1 : w.cell? ⟨S, 1, none⟩ = some (.string ⟨#[92, 92]⟩)) (s2 : w.cell? ⟨S, 2, none⟩ = some (.string ⟨#[47]⟩)) (s3 : w.cell? ⟨S, 3, none⟩ = some (.string ⟨#[92, 47]⟩)) :
    Calls Tryz.prog 83 #[.pointer (some ⟨R, 0, none⟩)] w fun e w' => ∃ B, e = .returned (.iface 147 (.pointer (some ⟨B, 0, none⟩))) ∧ Below w.heap.size w w' ∧ BSR w.heap.size w' B := by
  have hmk : ∀ w : World, (Instr.makeSlice 49 (.int .i64 0) (.int .i64 2)).run Tryz.prog w = .ok (.slice (some ⟨w.heap.size, 0, none⟩) 0 2) (w.alloc (.cells #[.string ⟨#[]⟩, .string ⟨#[]⟩] 9)) := fun _ => by kernel_rfl
  have hst := brow_store (w.alloc (.cells #[.string ⟨#[]⟩, .string ⟨#[]⟩] 9)) (w.heap.size + 1) (by simp) (.slice (some ⟨w.heap.size, 0, none⟩) 0 2) rfl
  go_enter Tryz.func83, Tryz.ntmps83
  go_upto_region 6 with fail
  refine wp_loop_rounds 3 ?_
  rw [rounds_succ]
  go_wp2_with fail
  rw [rounds_succ]
  go_wp2_with fail
  rw [rounds_succ]
  go_upto_region 26 with fail
  go_cut [3, 11] (fun v3 v11 wr => v3 = .slice (some ⟨S, 0, none⟩) 4 c ∧ v11 = .pointer (some ⟨w.heap.size + 1, 0, none⟩) ∧ BR w wr 0 (.string ⟨#[]⟩) (.string ⟨#[]⟩) (.slice none 0 0) (.slice none 0 0))
  · go_wp2_with fail
    go_meet
    refine ⟨rfl, rfl, below_box2 _ _ _, by simp, ?_, ?_, fun i hi _ _ => ?_, ?_, ?_, ?_, fun i => ?_, fun i => ?_⟩
    · rw [cell_old _ _ _ (by simp), cell_new _ _ _ _ _ rfl]; rfl
    · rw [cell_old _ _ _ (by simp), cell_new _ _ _ _ _ rfl]; rfl
    · rw [cell_new _ _ _ _ _ (by simp), brow_at _ i hi]
    · rw [cell_new _ _ _ _ _ (by simp), brow_at _ _ (by omega)]
    · rw [cell_new _ _ _ _ _ (by simp), brow_at _ _ (by omega)]
    · rw [cell_new _ _ _ _ _ (by simp), brow_256]
    · rw [World.frozen?_alloc_past _ _ _ (by simp), World.frozen?_alloc_at _ _ _ _ rfl]
    · rw [World.frozen?_alloc_at _ _ _ _ (by simp)]
  case rest =>
    clear hmk hst
    obtain ⟨rfl, rfl, hBR⟩ := hcut
    have HBR := Lib.hid hBR; clear hBR
    have t0 := keep_cell HBR.out.1 s0
    have t1 := keep_cell HBR.out.1 s1
    have t2 := keep_cell HBR.out.1 s2
    have t3 := keep_cell HBR.out.1 s3
    have c47 := HBR.out.2.2.2.2.2.1
    have c256 := HBR.out.2.2.2.2.2.2.2.1
    have e47 : ((⟨#[47]⟩ : ByteArray)[0]'(by decide)).toNat = 47 := rfl
    have e92 : ((⟨#[92]⟩ : ByteArray)[0]'(by decide)).toNat = 92 := rfl
    have hq : ∀ w : World, (binOp .eql 67 (.slice none 0 0) (.slice none 0 0)).run Tryz.prog w = .ok (.bool true) w := fun _ => by kernel_rfl
    have kc := conv_one wc 47
    rw [show strOfNums [47] = ⟨#[47]⟩ from rfl] at kc
    go_upto_region 28 with fail
    refine wp_loop_rounds 3 ?_
    rw [rounds_succ]
    go_upto_region 33 with fail
    go_cut [] (fun wr => BR w wr 1 (.string ⟨#[47]⟩) (.string ⟨#[]⟩) (.slice none 0 0) (.slice none 0 0))
    · have hsz := HBR.out.2.1
      have g0 : ∀ o p, ((wc.alloc o).alloc p).cell? ⟨w.heap.size, 0, none⟩ = some (.string ⟨#[]⟩) := fun o p => by
        rw [cell_old _ _ _ (by simp; omega), cell_old _ _ _ (by simp; omega)]; exact HBR.out.2.2.1
      have f0 : ∀ o p, ((wc.alloc o).alloc p).frozen? ⟨w.heap.size, 0, none⟩ = false := fun o p => by
        rw [World.frozen?_alloc_past _ _ _ (by simp; omega), World.frozen?_alloc_past _ _ _ (by omega)]; exact HBR.out.2.2.2.2.2.2.2.2.1 0
      have g256 : ∀ o p, ((wc.alloc o).alloc p).cell? ⟨w.heap.size + 1, 256, none⟩ = some (.slice (some ⟨w.heap.size, 0, none⟩) 0 2) := fun o p => by
        rw [cell_old _ _ _ (by simp; omega), cell_old _ _ _ (by simp; omega)]; exact HBR.out.2.2.2.2.2.2.2.1
      have f256 : ∀ o p, ((wc.alloc o).alloc p).frozen? ⟨w.heap.size + 1, 256, none⟩ = false := fun o p => by
        rw [World.frozen?_alloc_past _ _ _ (by simp; omega), World.frozen?_alloc_past _ _ _ (by omega)]; exact HBR.out.2.2.2.2.2.2.2.2.2 256
      go_wp2_with fail
      go_meet
      exact ((HBR.out.keep (below_box2 _ _ _)).s0 _).s256 1
    case rest =>
      clear kc c256
      have HBR1 := Lib.hid hcut; clear hcut
      obtain ⟨cp, w2, hcv, hb2, hlt2, hP⟩ := conv_s wc ⟨#[92, 47]⟩ 2 rfl
      have hsz := HBR.out.2.1
      have hsz1 := HBR1.out.2.1
      have g47 := keep_cell hb2 HBR1.out.2.2.2.2.2.1
      have f47 := HBR1.out.2.2.2.2.2.2.2.2.2 47
      rw [← hb2.frozen (by simp; omega)] at f47
      go_wp2_with fail
      generalize hw3 : w2.setCell _ _ = w3
      rw [rounds_succ]
      have HB3 : BR w w3 1 (.string ⟨#[47]⟩) (.string ⟨#[]⟩) (.slice (some ⟨wc.heap.size, 0, none⟩) 2 cp) (.slice none 0 0) := hw3 ▸ (HBR1.out.keep hb2).s47 _
      have p0 : w3.cell? ⟨wc.heap.size, 0, none⟩ = some (.int .u8 92) := by
        rw [← hw3]; exact (World.cell?_setCell_other _ _ _ _ (by simp <;> omega)).trans (hP 0 (by decide))
      have p1 : w3.cell? ⟨wc.heap.size, 1, none⟩ = some (.int .u8 47) := by
        rw [← hw3]; exact (World.cell?_setCell_other _ _ _ _ (by simp <;> omega)).trans (hP 1 (by decide))
      clear hw3 hP t0 t1 t2 t3 c47 g47 f47 hcv hb2 hlt2
      generalize wc.heap.size = P at *
      have HBR3 := Lib.hid HB3; clear HB3
      have t0 := keep_cell HBR3.out.1 s0
      have t1 := keep_cell HBR3.out.1 s1
      have c92 := HBR3.out.2.2.2.2.2.2.1
      have c256 := HBR3.out.2.2.2.2.2.2.2.1
      have kc := conv_one w3 92
      rw [show strOfNums [92] = ⟨#[92]⟩ from rfl] at kc
      go_upto_region 33 with fail
      go_cut [] (fun wr => BR w wr 2 (.string ⟨#[47]⟩) (.string ⟨#[92]⟩) (.slice (some ⟨P, 0, none⟩) 2 cp) (.slice none 0 0) ∧ wr.cell? ⟨P, 0, none⟩ = some (.int .u8 92) ∧ wr.cell? ⟨P, 1, none⟩ = some (.int .u8 47))
      · have hsz := HBR3.out.2.1
        have g0 : ∀ o p, ((w3.alloc o).alloc p).cell? ⟨w.heap.size, 1, none⟩ = some (.string ⟨#[]⟩) := fun o p => by
          rw [cell_old _ _ _ (by simp; omega), cell_old _ _ _ (by simp; omega)]; exact HBR3.out.2.2.2.1
        have f0 : ∀ o p, ((w3.alloc o).alloc p).frozen? ⟨w.heap.size, 1, none⟩ = false := fun o p => by
          rw [World.frozen?_alloc_past _ _ _ (by simp; omega), World.frozen?_alloc_past _ _ _ (by omega)]; exact HBR3.out.2.2.2.2.2.2.2.2.1 1
        have g256 : ∀ o p, ((w3.alloc o).alloc p).cell? ⟨w.heap.size + 1, 256, none⟩ = some (.slice (some ⟨w.heap.size, 0, none⟩) 1 2) := fun o p => by
          rw [cell_old _ _ _ (by simp; omega), cell_old _ _ _ (by simp; omega)]; exact HBR3.out.2.2.2.2.2.2.2.1
        have f256 : ∀ o p, ((w3.alloc o).alloc p).frozen? ⟨w.heap.size + 1, 256, none⟩ = false := fun o p => by
          rw [World.frozen?_alloc_past _ _ _ (by simp; omega), World.frozen?_alloc_past _ _ _ (by omega)]; exact HBR3.out.2.2.2.2.2.2.2.2.2 256
        go_wp2_with fail
        go_meet
        refine ⟨((HBR3.out.keep (below_box2 _ _ _)).s1 _).s256 2, ?_, ?_⟩
        · exact (World.cell?_setCell_other _ _ _ _ (by simp <;> omega)).trans ((World.cell?_setCell_other _ _ _ _ (by simp <;> omega)).trans (keep_cell (below_box2 _ _ _) p0))
        · exact (World.cell?_setCell_other _ _ _ _ (by simp <;> omega)).trans ((World.cell?_setCell_other _ _ _ _ (by simp <;> omega)).trans (keep_cell (below_box2 _ _ _) p1))
      case rest =>
        clear kc c256
        obtain ⟨hb4, q0, q1⟩ := hcut
        have HBR4 := Lib.hid hb4; clear hb4
        obtain ⟨cq, w4, hcv, hb4, hlt4, hQ⟩ := conv_s wc ⟨#[92, 92]⟩ 2 rfl
        have hsz4 := HBR4.out.2.1
        have g92 := keep_cell hb4 HBR4.out.2.2.2.2.2.2.1
        have f92 := HBR4.out.2.2.2.2.2.2.2.2.2 92
        rw [← hb4.frozen (by simp; omega)] at f92
        go_wp2_with fail
        generalize hw5 : w4.setCell _ _ = w5
        rw [rounds_succ]
        have HB5 : BR w w5 2 (.string ⟨#[47]⟩) (.string ⟨#[92]⟩) (.slice (some ⟨P, 0, none⟩) 2 cp) (.slice (some ⟨wc.heap.size, 0, none⟩) 2 cq) := hw5 ▸ (HBR4.out.keep hb4).s92 _
        go_wp2_with fail
        go_ret
        have hP4 : P < wc.heap.size := World.block_lt_of_cell? _ _ q0
        have r0 : w5.cell? ⟨P, 0, none⟩ = some (.int .u8 92) := by
          rw [← hw5]; exact (World.cell?_setCell_other _ _ _ _ (by simp <;> omega)).trans (keep_cell hb4 q0)
        have r1 : w5.cell? ⟨P, 1, none⟩ = some (.int .u8 47) := by
          rw [← hw5]; exact (World.cell?_setCell_other _ _ _ _ (by simp <;> omega)).trans (keep_cell hb4 q1)
        have r2 : w5.cell? ⟨wc.heap.size, 0, none⟩ = some (.int .u8 92) := by
          rw [← hw5]; exact (World.cell?_setCell_other _ _ _ _ (by simp <;> omega)).trans (hQ 0 (by decide))
        have r3 : w5.cell? ⟨wc.heap.size, 1, none⟩ = some (.int .u8 92) := by
          rw [← hw5]; exact (World.cell?_setCell_other _ _ _ _ (by simp <;> omega)).trans (hQ 1 (by decide))
        obtain ⟨h1, h2, h3, h4', h5, h6, h7, h8, h9, h10⟩ := HB5
        exact ⟨w.heap.size + 1, rfl, h1, h5, P, wc.heap.size, w.heap.size, cp, cq, ⟨by omega, by omega, by omega, by omega⟩, h6, r0, r1, h7, r2, r3, h8, h3, h4'⟩
end Go.Proofs.YtckmkhcahnijmaaGreatDoor
