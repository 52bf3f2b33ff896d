/- The walk of the program: ex.keys. -/
import Derived.Test.YtckmkhcahnijmaaGreatDoorV1
namespace Go.Proofs.YtckmkhcahnijmaaGreatDoor
open Go.RowKit
set_option linter.unusedVariables false
set_option linter.unusedSimpArgs false

def kcells (l : List (Int × Bool)) : List Value := l.flatMap fun b => [.int .i64 b.1, .bool b.2]
theorem kcells_cons (b : Int × Bool) (l : List (Int × Bool)) : kcells (b :: l) = .int .i64 b.1 :: .bool b.2 :: kcells l := by simp [kcells]
theorem kcells_snoc (l : List (Int × Bool)) (b : Int × Bool) : kcells (l ++ [b]) = kcells l ++ [.int .i64 b.1, .bool b.2] := by simp [kcells]
theorem kcells_at : ∀ (l : List (Int × Bool)) (j : Nat) (h : j < l.length), (kcells l)[j * 2]? = some (.int .i64 l[j].1) ∧ (kcells l)[j * 2 + 1]? = some (.bool l[j].2)
  | b :: l, 0, _ => by rw [kcells_cons]; exact ⟨rfl, rfl⟩
  | b :: l, j + 1, h => by
    have := kcells_at l j (by simpa using h)
    rw [kcells_cons, show (j + 1) * 2 = j * 2 + 1 + 1 by omega, show (j * 2 + 1 + 1 + 1) = (j * 2 + 1) + 1 + 1 by omega]
    simpa using this
theorem RB.of_row {w : World} {base n : Nat} {e : TypeId} {A : Option Addr} {c : Nat} {l : List (Int × Bool)} (hn : n = l.length) (h : w.ownsRow base e 2 (.slice A n c) n (kcells l)) : RB w A l := by
  subst hn
  intro j hj
  obtain ⟨hl, ⟨he, h0⟩ | ⟨g, cap, cur, he, hr⟩⟩ := h
  · omega
  · obtain ⟨rfl, _, rfl⟩ := Value.slice.injEq .. ▸ he
    have hh := fun j hj => World.ownsRow.cellAt (w := w) (base := base) (e := e) (size := 2) (cap := c) (g := g) (n := l.length) (xs := kcells l) ⟨hl, .inr ⟨g, c, cur, rfl, hr⟩⟩ j hj
    obtain ⟨k1, k2⟩ := kcells_at l j hj
    exact ⟨g, 0, rfl, by rw [Nat.zero_add, hh _ (by omega)]; exact k1, by rw [Nat.zero_add, hh _ (by omega)]; exact k2⟩
theorem Tryz.info57 : (Tryz.prog.info? 57).map (fun i => (i.zero, i.size, i.bytes)) = some (some (.agg #[.int .i64 0, .bool false]), 2, 16) := by kernel_rfl
theorem pieces_len : ∀ l : List UInt8, (pieces l).length ≤ l.length + 1 ∧ ∀ p ∈ pieces l, p.length ≤ l.length
  | [] => ⟨by simp [pieces], by simp [pieces]⟩
  | c :: l => by
    obtain ⟨h1, h2⟩ := pieces_len l
    rw [pieces]
    split
    · refine ⟨by simp; omega, fun p hp => ?_⟩
      rw [List.mem_cons] at hp
      rcases hp with rfl | hp
      · simp
      · have := h2 p hp; simp; omega
    · cases hq : pieces l with
      | nil => exact absurd hq (pieces_ne l)
      | cons a al =>
        rw [hq] at h1 h2
        refine ⟨by simp at h1 ⊢; omega, fun p hp => ?_⟩
        rw [List.mem_cons] at hp
        rcases hp with rfl | hp
        · have := h2 a (by simp); simp; omega
        · have := h2 p (by simp [hp]); simp; omega
/-- The pieces that strings.Split lays. -/
theorem split_pieces (s : ByteArray) : (Lib.splitB ⟨#[32]⟩ 0 (Lib.countB s ⟨#[32]⟩) s).map (·.data.toList) = pieces s.data.toList := by
  rw [Lib.splitB_data]; exact splitK_pieces _
theorem split_any (s : ByteArray) (m : Int) (w : World) (hs : s.size ≤ 65536) (hm : w.cell? ⟨0, 0, none⟩ = some (.int .i64 m)) :
    Calls Tryz.prog 74 #[.string s, .string ⟨#[32]⟩] w fun e w' => ∃ n : Nat, (pieces s.data.toList).length = n + 1 ∧ e = .returned (.slice (some ⟨w.heap.size, 0, none⟩) (n + 1) (n + 1)) ∧
      (∀ j (h : j < (pieces s.data.toList).length), w'.cell? ⟨w.heap.size, j, none⟩ = some (.string (bs (pieces s.data.toList)[j]))) ∧ Below w.heap.size w w' := by
  refine (Tryz.strings_Split s ⟨#[32]⟩ m w (by omega) hm (Nat.le_refl _)).mono fun e w' ⟨he, hw⟩ => ?_
  have hp := split_pieces s
  have hl := congrArg List.length hp
  rw [List.length_map, Lib.splitB_all ⟨#[32]⟩ (Nat.le_refl _) 0 _ s rfl] at hl
  refine ⟨Lib.countB s ⟨#[32]⟩, hl.symm, he, fun j hj => ?_, by rw [hw]; exact below_box _ _⟩
  subst hw
  rw [cell_new _ _ _ _ _ rfl, List.getElem?_toArray, List.getElem?_map]
  have e1 : (Lib.splitB ⟨#[32]⟩ 0 (Lib.countB s ⟨#[32]⟩) s)[j]?.map (·.data.toList) = some (pieces s.data.toList)[j] := by
    rw [← List.getElem?_map, hp, List.getElem?_eq_getElem hj]
  cases hx : (Lib.splitB ⟨#[32]⟩ 0 (Lib.countB s ⟨#[32]⟩) s)[j]? with
  | none => rw [hx] at e1; cases e1
  | some b =>
    rw [hx] at e1
    simp only [Option.map_some, Option.some.injEq] at e1
    rw [← e1]; rfl
theorem trim_len (l p : List UInt8) : (Lib.trimPrefix l p).length ≤ l.length := by
  unfold Lib.trimPrefix; split
  · simp
  · exact Nat.le_refl _

theorem valD_le (m : Nat) : ∀ (l : List UInt8) (v : Nat), v ≤ m → valD m v l ≤ m
  | [], v, h => h
  | c :: l, v, h => by
    simp only [valD]; split
    · exact valD_le m l _ (by omega)
    · exact h

set_option maxRecDepth 100000 in
set_option maxHeartbeats 2000000 in
theorem keys_any (s : ByteArray) (m : Int) (w : World) (hs : s.size ≤ 60000) (hm : w.cell? ⟨0, 0, none⟩ = some (.int .i64 m)) :
    Calls Tryz.prog 65 #[.string s] w fun e w' => ∃ A c, e = .returned (.slice A (keysP s.data.toList).length c) ∧ RB w' A (keysP s.data.toList) ∧ (∀ g off, A = some ⟨g, off, none⟩ → w.heap.size ≤ g) ∧ Below w.heap.size w w' := by
  obtain ⟨i0, hi, hz0, hz1, hz2⟩ := info_parts Tryz.info57
  have hsp := split_any s m w (by omega) hm
  have hpl := pieces_len s.data.toList
  rw [L_len] at hpl
  have HPL := Lib.hid hpl; clear hpl hm
  generalize hP : pieces s.data.toList = ps at *
  have HKP : Hid (keysP s.data.toList = (ps.drop 1).map keyP) := Lib.hid (by rw [keysP, hP])
  clear hP
  go_enter Tryz.func65, Tryz.ntmps65
  go_wp2_with (go_at_call 74; refine hsp.mono ?_; rintro e w2 ⟨n, hn, rfl, hcells, hb2⟩; have HN := Lib.hid hn; clear hn; have HC := Lib.hid hcells; clear hcells)
  · rename_i hn0
    go_loopw [3, 14] (fun o i wr => o = .slice none 0 0 ∧ i = .int .i64 0 ∧ wr = w2) (fun _ i _ => 0)
    case atStart => exact ⟨rfl, rfl, rfl⟩
    case round =>
      obtain ⟨rfl, rfl, rfl⟩ := hrel
      go_wp2_with fail
      go_ret
      have : ps.length = 1 := by have := HN.out; omega
      have hk : keysP s.data.toList = [] := by rw [HKP.out, List.drop_of_length_le (by omega)]; rfl
      rw [hk]
      exact ⟨none, 0, rfl, RB.nil _ _, (fun g off h => by cases h), hb2⟩
  · rename_i hn0
    have hnn : n ≤ s.size := by have := HN.out; have := HPL.out.1; omega
    go_loopw [3, 14] (fun o i wr => ∃ j : Nat, j ≤ n ∧ i = .int .i64 j ∧ wr.ownsRow w2.heap.size 57 2 o j (kcells (((ps.drop 1).take j).map keyP)) ∧ Below w2.heap.size w2 wr) (fun _ i _ => n - (intOf i).toNat)
    case atStart => exact ⟨0, by omega, rfl, World.ownsRow_nil .., Below.refl _ _⟩
    case round =>
      obtain ⟨j, hj, rfl, hown, hb⟩ := hrel
      have HO := Lib.hid hown; clear hown
      by_cases hlt : j < n
      · have hlp : 1 + j < ps.length := by have := HN.out; omega
        have hcl := keep_cell hb (HC.out (1 + j) hlp)
        have hcl2 : wr.cell? ⟨w.heap.size, 1 + j, none⟩ = some (.string (bs ps[1 + j])) := hcl
        clear hcl
        have hpz := HPL.out.2 _ (List.getElem_mem hlp)
        have HT : Hid ((ps.drop 1).take (j + 1) = (ps.drop 1).take j ++ [ps[1 + j]]) := Lib.hid (by
          rw [List.take_succ_eq_append_getElem (by simp; omega), List.getElem_drop])
        generalize ps[1 + j] = p at *
        have hcp := fun W => cutPrefix_any (bs p) ⟨#[45]⟩ W
        have e45 : (⟨#[45]⟩ : ByteArray).data.toList = [45] := rfl
        rw [e45, bs_L] at hcp
        have htl := trim_len p [45]
        have HKe : Hid (keyP p = ((valD 41 0 (Lib.trimPrefix p [45]) : Int) - 1, Lib.hasPrefix p [45])) := Lib.hid rfl
        generalize Lib.trimPrefix p [45] = r at *
        generalize Lib.hasPrefix p [45] = d at *
        have hdg := fun W => pdigits_any (bs r) 41 W (by rw [bs_size]; omega) (by omega)
        rw [bs_L] at hdg
        have hq : valD 41 0 r ≤ 41 := valD_le 41 r 0 (by omega)
        generalize valD 41 0 r = q at *
        have hbw : Below w.heap.size w wr := keep_below hb2 hb hb2.size
        clear e45
        go_wp2_with (first | (go_at_call 48; refine (hcp _).mono ?_; rintro e w3 ⟨rfl, rfl⟩) | (go_at_call 50; refine (hdg _).mono ?_; rintro e w3 ⟨rfl, rfl⟩) |
          (at_builtin; go_must (refine appN _ rfl (.tmp 28) (.tmp 33) 31 rfl w2.heap.size 57 i0 _ 2 16 Tryz.underlying31 hi hz0 hz1 hz2 rfl (by omega) _ _ _ (by rfl) HO.out [_, _] rfl (by simp [Value.oneCell']) (by rfl) (by omega) (by omega) hb.size ?_); intro g' cap' w1 hown1 hb1 _))
        go_roundw
        case rel =>
          refine ⟨j + 1, by omega, by go_num, ?_, hb1 _ hb⟩
          rw [HT.out, List.map_append, List.map_singleton, kcells_snoc, HKe.out]
          exact hown1
        case measure => simp [intOf]; omega
      · have hjn : j = n := by omega
        subst hjn
        go_wp2_with fail
        go_ret
        have hk : keysP s.data.toList = ((ps.drop 1).take j).map keyP := by
          have := HN.out
          rw [HKP.out, List.take_of_length_le (by simp; omega)]
        have hlen : (keysP s.data.toList).length = j := by
          have := HN.out
          rw [HKP.out]; simp; omega
        obtain ⟨A, c, rfl⟩ := row_form HO.out
        rw [hlen]
        have := HO.out
        rw [← hk] at this
        exact ⟨A, c, rfl, RB.of_row hlen.symm this, (fun g off h => by subst h; exact Nat.le_trans hb2.size (HO.out.lt g rfl).1), keep_below hb2 hb hb2.size⟩
end Go.Proofs.YtckmkhcahnijmaaGreatDoor
