import Derived.Test.YtckmkhcahnijmaaGreatDoorR3
import Derived.BigRegion
namespace Go.Proofs.YtckmkhcahnijmaaGreatDoor
open Go.RowKit
set_option linter.unusedVariables false
set_option linter.unusedSimpArgs false

def isE (c : UInt8) : Bool := c == 47 || c == 92
def nesc (l : List UInt8) : Nat := l.countP isE
theorem nesc_cons (c : UInt8) (l : List UInt8) : nesc (c :: l) = nesc l + if isE c then 1 else 0 := by simp [nesc, List.countP_cons]
theorem nesc_le (l : List UInt8) : nesc l ≤ l.length := List.countP_le_length
theorem nesc_len (l : List UInt8) : (esc l).length = l.length + nesc l := by
  induction l with
  | nil => rfl
  | cons c l ih =>
    rw [esc_cons, nesc_cons, List.length_append, ih]
    cases h : isE c <;> (unfold isE at h; simp [h]; omega)
theorem nesc_id (l : List UInt8) (h : nesc l = 0) : esc l = l := by
  induction l with
  | nil => rfl
  | cons c l ih =>
    rw [nesc_cons] at h
    have h1 : isE c = false := by cases h2 : isE c <;> simp [h2] at h ⊢
    rw [esc_cons, ih (by omega)]
    unfold isE at h1; simp [h1]
theorem nesc_count (l : List UInt8) : nesc l = Lib.countByte l 47 + Lib.countByte l 92 := by
  induction l with
  | nil => rfl
  | cons c l ih =>
    unfold Lib.countByte at *
    rw [nesc_cons, List.count_cons, List.count_cons, ih]
    unfold isE
    cases h1 : c == 47 <;> cases h2 : c == 92 <;> simp
    · omega
    · omega
    · have e1 : c = 47 := by simpa using h1
      have e2 : c = 92 := by simpa using h2
      rw [e1] at e2; exact absurd e2 (by decide)
theorem BSR.at {b B : Nat} {w : World} (h : BSR b w B) (c : UInt8) :
    (isE c = false ∧ w.cell? ⟨B, c.toNat, none⟩ = some (.slice none 0 0)) ∨
    (isE c = true ∧ ∃ X cx, w.cell? ⟨B, c.toNat, none⟩ = some (.slice (some ⟨X, 0, none⟩) 2 cx) ∧ w.cell? ⟨X, 0, none⟩ = some (.int .u8 92) ∧ w.cell? ⟨X, 1, none⟩ = some (.int .u8 c.toNat)) := by
  obtain ⟨hn, P, Q, T, c1, c2, -, k1, k2, k3, k4, k5, k6, k7, k8, k9⟩ := h
  unfold isE
  cases h1 : c == 47
  · cases h2 : c == 92
    · refine .inl ⟨rfl, hn _ c.toNat_lt (fun e => ?_) (fun e => ?_)⟩
      · rw [show c = 47 from UInt8.toNat.inj e] at h1; exact absurd h1 (by decide)
      · rw [show c = 92 from UInt8.toNat.inj e] at h2; exact absurd h2 (by decide)
    · have e : c = 92 := by simpa using h2
      subst e
      exact .inr ⟨rfl, Q, c2, k4, k5, k6⟩
  · have e : c = 47 := by simpa using h1
    subst e
    exact .inr ⟨rfl, P, c1, k1, k2, k3⟩
theorem made_at (N m : Nat) (h : m < N) : (madeCells #[.int .u8 0] N)[m]? = some (.int .u8 0) := by
  unfold madeCells; simp [h, Nat.mod_one]
def EB (g N : Nat) (out : List UInt8) (wr : World) : Prop := (∀ m (h : m < out.length), wr.cell? ⟨g, m, none⟩ = some (.int .u8 (out[m].toNat : Int))) ∧ (∀ m, m < N → ∃ u, wr.cell? ⟨g, m, none⟩ = some u) ∧ (∀ m, wr.frozen? ⟨g, m, none⟩ = false)
theorem EB.set {g N : Nat} {out : List UInt8} {wr : World} (h : EB g N out wr) (hl : out.length < N) (c : UInt8) : EB g N (out ++ [c]) (wr.setCell ⟨g, out.length, none⟩ (.int .u8 (c.toNat : Int))) := by
  obtain ⟨h1, h2, h3⟩ := h
  obtain ⟨u0, hu0⟩ := h2 _ hl
  refine ⟨fun m hm => ?_, fun m hm => ?_, fun m => (World.frozen?_setCell ..).trans (h3 m)⟩
  · by_cases e : m = out.length
    · subst e; rw [World.cell?_setCell_same _ _ _ hu0]; simp
    · rw [World.cell?_setCell_other _ _ _ _ (by simp <;> omega)]
      have : m < out.length := by simp at hm; omega
      rw [h1 m this, List.getElem_append_left this]
  · by_cases e : m = out.length
    · subst e; exact ⟨_, World.cell?_setCell_same _ _ _ hu0⟩
    · obtain ⟨u, hu⟩ := h2 m hm
      exact ⟨u, (World.cell?_setCell_other _ _ _ _ (by simp <;> omega)).trans hu⟩
theorem make_bytes (N : Nat) (hN : N ≤ 1000000) (w : World) : (Instr.makeSlice 67 (.int .i64 N) (.int .i64 N)).run Tryz.prog w = .ok (.slice (some ⟨w.heap.size, 0, none⟩) N N) (w.alloc (.cells (madeCells #[.int .u8 0] N) 5)) := by
  have hp := (by kernel_rfl : (Tryz.prog.info? 5).map (fun i => (i.zero, i.size, i.bytes)) = some (some (.int .u8 0), 1, 1))
  obtain ⟨i, hi, hii⟩ := Option.map_eq_some_iff.1 hp
  simp only [Prod.mk.injEq] at hii
  obtain ⟨hz, h1, h2⟩ := hii
  have h := run_make (P := Tryz.prog) w 67 5 i (.int .u8 0) Tryz.underlying67 hi hz .i64 .i64 N N (by omega) (by omega) (by rw [h2]; omega) (by omega)
  rw [h, h1]; simp [Value.cells]
set_option maxRecDepth 100000 in
set_option maxHeartbeats 1000000 in
theorem brep_any (b B : Nat) (s : ByteArray) (w : World) (hB : BSR b w B) (hs : s.size ≤ 65536) :
    Calls Tryz.prog 159 #[.pointer (some ⟨B, 0, none⟩), .string s] w fun e w' => e = .returned (.string (bs (esc s.data.toList))) ∧ Below w.heap.size w w' := by
  have HB := Lib.hid hB
  obtain ⟨hn, P, Q, T, c1, c2, -, k1, k2, k3, k4, k5, k6, k7, k8, k9⟩ := hB
  clear hn
  have HC := Lib.hid (nesc_count s.data.toList)
  have hl1 : Lib.countByte s.data.toList 47 ≤ s.size := List.count_le_length
  have hl2 : Lib.countByte s.data.toList 92 ≤ s.size := List.count_le_length
  go_enter Tryz.func159, Tryz.ntmps159
  go_upto_if 26 with fail
  go_cut [5, 6] (fun v5 v6 wx => v5 = .int .i64 (s.size + nesc s.data.toList : Nat) ∧ v6 = .bool (!(nesc s.data.toList == 0)) ∧ Below w.heap.size w wx)
  case first =>
    by_cases h16 : (16 : Int) ≤ s.size
    · have K1 := Tryz.strings_Count_one s 47
      have K2 := Tryz.strings_Count_one s 92
      generalize Lib.countByte s.data.toList 47 = n1 at *
      generalize Lib.countByte s.data.toList 92 = n2 at *
      have e47 : ((⟨#[47]⟩ : ByteArray)[0]'(by decide)).toNat = 47 := rfl
      have e92 : ((⟨#[92]⟩ : ByteArray)[0]'(by decide)).toNat = 92 := rfl
      have W1 : IntKind.i64.wrap (n1 : Int) = n1 := IntWalk.i64_in _ (by omega)
      have W2 : IntKind.i64.wrap (n2 : Int) = n2 := IntWalk.i64_in _ (by omega)
      have W3 : IntKind.i64.wrap ((s.size : Int) + n1) = (s.size : Int) + n1 := IntWalk.i64_in _ (by omega)
      have W4 : IntKind.i64.wrap ((s.size : Int) + n2) = (s.size : Int) + n2 := IntWalk.i64_in _ (by omega)
      have W5 : IntKind.i64.wrap ((s.size : Int) + n1 + n2) = (s.size : Int) + n1 + n2 := IntWalk.i64_in _ (by omega)
      cases h1 : ((n1 : Int) == 0)
      · cases h2 : ((n2 : Int) == 0)
        · skip
          go_upto_region 5 with fail
          refine wp_loop_rounds 3 ?_
          rw [rounds_succ]
          go_wp2_with (go_at_call 99; refine (K1 _).mono ?_; rintro e w' ⟨rfl, rfl⟩)
          go_quiet (fail)
          go_wp2_with fail
          rw [rounds_succ]
          go_wp2_with (go_at_call 99; refine (K2 _).mono ?_; rintro e w' ⟨rfl, rfl⟩)
          go_quiet (fail)
          go_wp2_with fail
          rw [rounds_succ]
          go_wp2_with fail
          go_meet
          have h1' := h1
          have h2' := h2
          simp at h1' h2'
          refine ⟨?_, ?_, ?_⟩
          · rw [HC.out]; simp_all <;> omega
          · rw [HC.out]; simp_all <;> omega
          · first | exact Below.refl _ _ | exact below_drewN (Below.refl _ _) _ | exact below_drewN (below_drewN (Below.refl _ _) _) _
        · skip
          go_upto_region 5 with fail
          refine wp_loop_rounds 3 ?_
          rw [rounds_succ]
          go_wp2_with (go_at_call 99; refine (K1 _).mono ?_; rintro e w' ⟨rfl, rfl⟩)
          go_quiet (fail)
          go_wp2_with fail
          rw [rounds_succ]
          go_wp2_with (go_at_call 99; refine (K2 _).mono ?_; rintro e w' ⟨rfl, rfl⟩)
          rw [rounds_succ]
          go_wp2_with fail
          go_meet
          have h1' := h1
          have h2' := h2
          simp at h1' h2'
          refine ⟨?_, ?_, ?_⟩
          · rw [HC.out]; simp_all <;> omega
          · rw [HC.out]; simp_all <;> omega
          · first | exact Below.refl _ _ | exact below_drewN (Below.refl _ _) _ | exact below_drewN (below_drewN (Below.refl _ _) _) _
      · cases h2 : ((n2 : Int) == 0)
        · skip
          go_upto_region 5 with fail
          refine wp_loop_rounds 3 ?_
          rw [rounds_succ]
          go_wp2_with (go_at_call 99; refine (K1 _).mono ?_; rintro e w' ⟨rfl, rfl⟩)
          rw [rounds_succ]
          go_wp2_with (go_at_call 99; refine (K2 _).mono ?_; rintro e w' ⟨rfl, rfl⟩)
          go_quiet (fail)
          go_wp2_with fail
          rw [rounds_succ]
          go_wp2_with fail
          go_meet
          have h1' := h1
          have h2' := h2
          simp at h1' h2'
          refine ⟨?_, ?_, ?_⟩
          · rw [HC.out]; simp_all <;> omega
          · rw [HC.out]; simp_all <;> omega
          · first | exact Below.refl _ _ | exact below_drewN (Below.refl _ _) _ | exact below_drewN (below_drewN (Below.refl _ _) _) _
        · skip
          go_upto_region 5 with fail
          refine wp_loop_rounds 3 ?_
          rw [rounds_succ]
          go_wp2_with (go_at_call 99; refine (K1 _).mono ?_; rintro e w' ⟨rfl, rfl⟩)
          rw [rounds_succ]
          go_wp2_with (go_at_call 99; refine (K2 _).mono ?_; rintro e w' ⟨rfl, rfl⟩)
          rw [rounds_succ]
          go_wp2_with fail
          go_meet
          have h1' := h1
          have h2' := h2
          simp at h1' h2'
          refine ⟨?_, ?_, ?_⟩
          · rw [HC.out]; simp_all <;> omega
          · rw [HC.out]; simp_all <;> omega
          · first | exact Below.refl _ _ | exact below_drewN (Below.refl _ _) _ | exact below_drewN (below_drewN (Below.refl _ _) _) _
    · have hq0 : ∀ w : World, (binOp .neq 67 (.slice none 0 0) (.slice none 0 0)).run Tryz.prog w = .ok (.bool false) w := fun _ => by kernel_rfl
      have hq1 : ∀ (X cx : Nat) (w : World), (binOp .neq 67 (.slice (some ⟨X, 0, none⟩) 2 cx) (.slice none 0 0)).run Tryz.prog w = .ok (.bool true) w := fun X cx w => by kernel_rfl
      clear HC
      go_wp2
      go_loop [5, 6, 10] (fun v5 v6 v10 => ∃ (k n5 : Nat) (b6 : Bool), k ≤ s.size ∧ v10 = .int .i64 k ∧ v5 = .int .i64 n5 ∧ v6 = .bool b6 ∧ n5 ≤ s.size + k ∧ s.size + nesc s.data.toList = n5 + nesc (s.data.toList.drop k) ∧ (nesc s.data.toList == 0) = (!b6 && nesc (s.data.toList.drop k) == 0)) (fun _ _ i => s.size - (intOf i).toNat)
      case atStart => exact ⟨0, s.size, false, by omega, rfl, rfl, rfl, by omega, by simp, by simp⟩
      case round =>
        obtain ⟨k, n5, b6, hk, rfl, rfl, rfl, hn5, hr, hr2⟩ := hrel
        have HR := Lib.hid hr; clear hr
        have HR2 := Lib.hid hr2; clear hr2
        by_cases hlt : k < s.size
        · have HD := Lib.hid (drop_cons s k hlt)
          have hbl : s[k].toNat < 256 := s[k].toNat_lt
          rcases HB.out.at s[k] with ⟨he, hc⟩ | ⟨he, X, cx, hc, x0, x1⟩
          · have HE := Lib.hid he; clear he
            go_wp2
            go_round
            case rel => exact ⟨k + 1, n5, b6, by omega, by go_num, rfl, rfl, by omega, by rw [HR.out, HD.out, nesc_cons, HE.out]; rfl, by rw [HR2.out, HD.out, nesc_cons, HE.out]; rfl⟩
            case measure => simp [intOf]; omega
          · have HE := Lib.hid he; clear he
            have W1 : IntKind.i64.wrap ((n5 : Int) + 1) = (n5 : Int) + 1 := IntWalk.i64_in _ (by omega)
            go_wp2
            go_round
            case rel => exact ⟨k + 1, n5 + 1, true, by omega, by go_num, by go_num, rfl, by omega, by rw [HR.out, HD.out, nesc_cons, HE.out]; simp; omega, by rw [HR2.out, HD.out, nesc_cons, HE.out]; simp⟩
            case measure => simp [intOf]; omega
        · have ek : k = s.size := by omega
          have hdn : s.data.toList.drop k = [] := List.drop_eq_nil_of_le (by rw [L_len]; omega)
          go_wp2
          go_meet
          refine ⟨?_, ?_, Below.refl _ _⟩
          · rw [HR.out, hdn]; rfl
          · rw [HR2.out, hdn]; simp [nesc]
  case rest =>
    obtain ⟨rfl, rfl, hb⟩ := hcut
    have HBc := Lib.hid (HB.out.keep hb)
    cases hz : nesc s.data.toList == 0
    · have HZ := Lib.hid hz; clear hz
      have HL := Lib.hid (nesc_len s.data.toList)
      have hle : nesc s.data.toList ≤ s.size := nesc_le _
      generalize nesc s.data.toList = ne at *
      have HN := Lib.hid (show (esc s.data.toList).length = s.size + ne from HL.out)
      have hNN : s.size + ne ≤ 131072 := by omega
      clear HL HC HZ k1 k2 k3 k4 k5 k6 k7 k8 k9
      generalize s.size + ne = N at *
      have hmk := make_bytes N (by omega) wc
      go_wp2
      go_loopw [13, 14] (fun v13 v14 wr => ∃ (k : Nat) (out : List UInt8), k ≤ s.size ∧ v14 = .int .i64 k ∧ v13 = .int .i64 out.length ∧ esc s.data.toList = out ++ esc (s.data.toList.drop k) ∧
        EB wc.heap.size N out wr ∧ Below wc.heap.size wc wr) (fun _ i _ => s.size - (intOf i).toNat)
      case atStart =>
        refine ⟨0, [], by omega, rfl, rfl, by simp, ⟨fun m h => absurd h (by simp), fun m h => ⟨_, (cell_new _ _ _ _ _ rfl).trans (made_at N m h)⟩, fun m => World.frozen?_alloc_at _ _ _ _ rfl⟩, below_box _ _⟩
      case round =>
        obtain ⟨k, out, hk, rfl, rfl, hr, heb, hbr⟩ := hrel
        have HR := Lib.hid hr; clear hr
        have HEB := Lib.hid heb; clear heb
        have hf := HEB.out.2.2
        have hol : out.length ≤ N := by have := congrArg List.length HR.out; rw [HN.out, List.length_append] at this; omega
        by_cases hlt : k < s.size
        · have HD := Lib.hid (drop_cons s k hlt)
          have hbl : s[k].toNat < 256 := s[k].toNat_lt
          rcases (HBc.out.keep hbr).at s[k] with ⟨he, hc⟩ | ⟨he, X, cx, hc, x0, x1⟩
          · have HE := Lib.hid he; clear he
            have hq0 : ∀ w : World, (binOp .neq 67 (.slice none 0 0) (.slice none 0 0)).run Tryz.prog w = .ok (.bool false) w := fun _ => by kernel_rfl
            have hlt2 : out.length < N := by
              have := congrArg List.length HR.out
              rw [HN.out, List.length_append, HD.out, esc_cons, List.length_append] at this
              have : 1 ≤ (if s[k] == 47 || s[k] == 92 then [92, s[k]] else [s[k]]).length := by split <;> simp
              omega
            obtain ⟨u, hcu⟩ := HEB.out.2.1 out.length hlt2
            go_wp2
            go_roundw
            case rel => exact ⟨k + 1, out ++ [s[k]], by omega, by go_num, by simp, by rw [HR.out, HD.out, esc_cons, show (s[k] == 47 || s[k] == 92) = false from HE.out]; simp, HEB.out.set hlt2 _, hbr.setCell (Nat.le_refl _) _⟩
            case measure => simp [intOf]; omega
          · have HE := Lib.hid he; clear he
            have hq1 : ∀ (w : World), (binOp .neq 67 (.slice (some ⟨X, 0, none⟩) 2 cx) (.slice none 0 0)).run Tryz.prog w = .ok (.bool true) w := fun w => by kernel_rfl
            have hlt2 : out.length + 1 < N := by
              have := congrArg List.length HR.out
              rw [HN.out, List.length_append, HD.out, esc_cons, List.length_append, show (s[k] == 47 || s[k] == 92) = true from HE.out] at this
              simp at this
              omega
            go_upto_region 28 with fail
            have hbi : (s[k].toNat : Int) < 256 := by omega
            have hne : ¬ N = out.length := by omega
            have hmin : Nat.min 2 (N - out.length) = 2 := Nat.min_eq_left (by omega)
            have heb1 := HEB.out.set (by omega) 92
            have hcp : (Builtin.copy_ #[67, 67] 3 #[.slice (some ⟨wc.heap.size, out.length, none⟩) (N - out.length) (N - out.length), .slice (some ⟨X, 0, none⟩) 2 cx]).run Tryz.prog wr.drew =
                .ok (.int .i64 2) ((wr.drew.setCell ⟨wc.heap.size, out.length, none⟩ (.int .u8 92)).setCell ⟨wc.heap.size, out.length + 1, none⟩ (.int .u8 s[k].toNat)) :=
              run_copy_cells wr.drew 67 67 3 5 wc.heap.size out.length (N - out.length) (N - out.length) ⟨X, 0, none⟩ 2 cx [.int .u8 92, .int .u8 s[k].toNat] Tryz.underlying67 (by kernel_rfl) hmin.symm
                (fun j v hj => by
                  rcases j with _ | _ | j
                  · simp at hj; subst hj; exact x0
                  · simp at hj; subst hj; exact x1
                  · simp at hj)
                (fun j hj => by obtain ⟨u, hu⟩ := HEB.out.2.1 (out.length + j) (by simp at hj; omega); exact Option.isSome_iff_exists.2 ⟨u, hu⟩)
                (fun j hj => HEB.out.2.2 _) (by simp [Value.oneCell'])
            have heb2 := heb1.set (by simp; omega) s[k]
            have HEB2 := Lib.hid heb2
            clear heb1 heb2
            have W2 : IntKind.i64.wrap ((out.length : Int) + 2) = (out.length : Int) + 2 := IntWalk.i64_in _ (by omega)
            go_region
            all_goals
              clear hcp
              go_wp2
              go_roundw
            case rel => exact ⟨k + 1, (out ++ [92]) ++ [s[k]], by omega, by go_num, by simp <;> omega, by rw [HR.out, HD.out, esc_cons, show (s[k] == 47 || s[k] == 92) = true from HE.out]; simp, by have q := HEB2.out; simp only [List.length_append, List.length_singleton] at q; exact q, ((hbr.setCell (Nat.le_refl _) _).setCell (Nat.le_refl _) _).drew⟩
            case measure => simp [intOf]; omega
        · have ek : k = s.size := by omega
          have hdn : s.data.toList.drop k = [] := List.drop_eq_nil_of_le (by rw [L_len]; omega)
          have hon : out.length = N := by have := congrArg List.length HR.out; rw [HN.out, List.length_append, hdn] at this; simpa [esc] using this.symm
          have hcv := run_convert_bytes_back (P := Tryz.prog) wr 67 9 5 ⟨wc.heap.size, 0, none⟩ N out Tryz.underlying67 Tryz.underlying5 Tryz.underlying9 (fun j hj => by
            have := HEB.out.1 j hj
            have hadd : (⟨wc.heap.size, 0, none⟩ : Addr).add j = ⟨wc.heap.size, j, none⟩ := by unfold Addr.add; split <;> simp_all
            rw [hadd]; exact this)
          rw [hon] at hcv
          go_wp2
          go_ret
          refine ⟨ret_str ?_, hb.trans (hbr.mono hb.size)⟩
          rw [HR.out, hdn]; simp [esc, bs]
    · have hz' : nesc s.data.toList = 0 := by simpa using hz
      have HZ := Lib.hid hz'; clear hz'
      go_wp2_with fail
      go_ret
      exact ⟨ret_str (ba_ext (by rw [bs_L, nesc_id _ HZ.out])), hb⟩
end Go.Proofs.YtckmkhcahnijmaaGreatDoor
