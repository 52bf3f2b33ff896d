/- The walk of the reference: damierref25.Same. -/
import Derived.Test.YtckmkhcahnijmaaGreatDoorG
import Derived.Test.YtckmkhcahnijmaaGreatDoorK
namespace Go.Proofs.YtckmkhcahnijmaaGreatDoor
open Go.RowKit
set_option linter.unusedVariables false
set_option linter.unusedSimpArgs false

def sameL (x y : Ln) : Bool :=
  decide (x.bys = y.bys) && (x.nm == y.nm && (x.n == y.n && ((x.t.col == y.t.col && (x.t.op == y.t.op && (x.t.arg.data.toList == y.t.arg.data.toList && x.t.nt == y.t.nt))) && (x.has == y.has && (x.whole == y.whole && (x.each == y.each && (x.pat.data.toList == y.pat.data.toList && x.wth.data.toList == y.wth.data.toList)))))))

set_option maxRecDepth 100000 in
set_option maxHeartbeats 4000000 in
theorem same_any (A A2 : Option Addr) (c c2 : Nat) (x y : Ln) (w : World) (hl : x.bys.length ≤ 65536) (hl2 : y.bys.length ≤ 65536) (hr : RB w A x.bys) (hr2 : RB w A2 y.bys) :
    Calls Tryz.prog 15 #[vL A c x, vL A2 c2 y] w fun e w' => e = .returned (.bool (sameL x y)) ∧ Below w.heap.size w w' := by
  obtain ⟨nm, n, l, ⟨col, op, arg, nt⟩, has, whole, each, pat, wth⟩ := x
  obtain ⟨nm', n', l', ⟨col', op', arg', nt'⟩, has', whole', each', pat', wth'⟩ := y
  unfold vL
  simp only at *
  have HR := Lib.hid hr; clear hr
  have HR2 := Lib.hid hr2; clear hr2
  cases hlen : ((l.length : Int) != l'.length)
  · have hll : l.length = l'.length := by have := bne_eq_false_iff_eq.mp hlen; omega
    have HLL := Lib.hid hll; clear hll
    have nb := neq_by
    have gb := grd_by
    have et := eql_t
    have gt := grd_t
    go_enter Tryz.func15, Tryz.ntmps15
    go_wp2
    go_loopw [5, 16] (fun _ i wr => ∃ k m : Nat, k ≤ l.length ∧ i = .int .i64 k ∧ l.take k = l'.take k ∧ wr = ((w.alloc (.cells #[.int .i64 nm, .int .i64 n, .slice A l.length c, .int .i64 col, .int .i64 op, .string arg, .bool nt, .bool has, .bool whole, .bool each, .string pat, .string wth] 26)).alloc
      (.cells #[.int .i64 nm', .int .i64 n', .slice A2 l'.length c2, .int .i64 col', .int .i64 op', .string arg', .bool nt', .bool has', .bool whole', .bool each', .string pat', .string wth'] 26)).drewN m) (fun _ i _ => l.length - (intOf i).toNat)
    case atStart => exact ⟨0, 0, by omega, rfl, by simp, rfl⟩
    case round =>
      obtain ⟨k, m, hk, rfl, hq, rfl⟩ := hrel
      have HQ := Lib.hid hq; clear hq
      by_cases hlt : k < l.length
      · obtain ⟨b, off, HA, h1, h2⟩ := HR.out k hlt
        obtain ⟨b', off', HA', h1', h2'⟩ := HR2.out k (by rw [← HLL.out]; exact hlt)
        subst HA; subst HA'
        have hb1 := World.block_lt_of_cell? w _ h1
        have hb2 := World.block_lt_of_cell? w _ h1'
        simp only at hb1 hb2
        have z1 : (0 : Int) ≤ k := by omega
        have z2 : (k : Int) < l.length := by omega
        have z3 : (k : Int) < l'.length := by have := HLL.out; omega
        have hlt' : k < l'.length := by have := HLL.out; omega
        cases he : (l[k].1 == l'[k].1 && l[k].2 == l'[k].2)
        · have hne : l ≠ l' := by rintro rfl; simp at he
          have HNE := Lib.hid hne; clear hne
          go_upto_region 6 with fail
          go_quiet (fail)
          go_wp2
          go_ret
          exact ⟨ret_bool (by simp [sameL, HNE.out]), below_drewN (below_drewN (below_box2 _ _ _) _) _⟩
        · have hee : l[k] = l'[k] := by
            rw [Bool.and_eq_true, beq_iff_eq, beq_iff_eq] at he
            exact Prod.ext he.1 he.2
          have HEE := Lib.hid hee; clear hee
          go_upto_region 6 with fail
          go_quiet (fail)
          go_wp2
          go_roundw
          case rel => exact ⟨k + 1, _, by omega, by go_num, by rw [List.take_succ_eq_append_getElem hlt, List.take_succ_eq_append_getElem hlt', HQ.out, HEE.out], rfl⟩
          case measure => simp [intOf]; omega
      · have HK := Lib.hid (show l = l' by
          have := HQ.out
          rwa [List.take_of_length_le (by omega), List.take_of_length_le (by have := HLL.out; omega)] at this)
        go_wp2
        all_goals
          go_ret
          refine ⟨ret_bool ?_, below_drewN (below_box2 _ _ _) _⟩
          go_light
          clear gb gt nb et HR HR2 HLL HQ
          have hk2 := HK.out
          clear HK
          simp only [sameL, hk2, decide_true, Bool.true_and, toList_L] at *
          simp_all
  · go_enter Tryz.func15, Tryz.ntmps15
    go_wp2
    go_ret
    refine ⟨ret_bool ?_, below_box2 _ _ _⟩
    have : l ≠ l' := by rintro rfl; simp at hlen
    simp [sameL, this]
end Go.Proofs.YtckmkhcahnijmaaGreatDoor
