/- The walk of the program: ex.apart. -/
import Derived.Test.YtckmkhcahnijmaaGreatDoorN
namespace Go.Proofs.YtckmkhcahnijmaaGreatDoor
open Go.RowKit
set_option linter.unusedVariables false
set_option linter.unusedSimpArgs false

theorem in_t2 (a o a' o' : Int) (s s' : ByteArray) (b b' : Bool) (w : World) : (Op.equalIn 10000 32 (.agg #[.int .i64 a, .int .i64 o, .string s, .bool b]) (.agg #[.int .i64 a', .int .i64 o', .string s', .bool b'])).run Tryz.prog w = .ok (a == a' && (o == o' && (s.toList == s'.toList && b == b'))) w := by
  have u3 := Tryz.underlying3
  have a3 := Tryz.isAgg3
  have z3 := Tryz.sizeOf3
  have u4 := Tryz.underlying4
  have a4 := Tryz.isAgg4
  have z4 := Tryz.sizeOf4
  have u9 := Tryz.underlying9
  have a9 := Tryz.isAgg9
  have z9 := Tryz.sizeOf9
  have hS : Tryz.prog.underlying 32 = some (.struct (Tryz.prog.fieldsOf 32)) := by kernel_rfl
  have hp : Tryz.prog.stoodInHeld 32 = false := by kernel_rfl
  rw [show (10000 : Nat) = 9999 + 1 from rfl, run_equalIn_agg w 9999 32 _ _ hS hp]
  simp only [Program.fieldsOf, Tryz.underlying32]
  go_simp
  by_cases h1 : a = a' <;> by_cases h2 : o = o' <;> by_cases h3 : s.toList = s'.toList <;> by_cases h4 : b = b' <;> simp [h1, h2, h3, h4]
theorem eql_t2 (a o a' o' : Int) (s s' : ByteArray) (b b' : Bool) (w : World) : (binOp .eql 32 (.agg #[.int .i64 a, .int .i64 o, .string s, .bool b]) (.agg #[.int .i64 a', .int .i64 o', .string s', .bool b'])).run Tryz.prog w = .ok (.bool (a == a' && (o == o' && (s.toList == s'.toList && b == b')))) w := by
  rw [run_eql_struct, in_t2]; rfl
theorem grd_t2 : Tryz.prog.eqGuardType Tryz.prog.depth 32 = false := by kernel_rfl

/-- What the program asks of a line: that it has nothing that its name does not ask for. -/
def apartB (x : Ln) : Bool :=
  (if isNum x.nm then true else x.n == 0) && ((if x.nm = 2 then true else x.bys.isEmpty) && ((if x.nm = 3 ∨ x.nm = 4 then true else sameT x.t zT && !x.has) && (if x.nm = 7 then true else !x.whole && (!x.each && (x.pat.data.toList.isEmpty && x.wth.data.toList.isEmpty)))))

set_option maxRecDepth 100000 in
set_option maxHeartbeats 4000000 in
theorem apart_any (A : Option Addr) (c : Nat) (x : Ln) (w : World) (hl : x.bys.length ≤ 65536) :
    Calls Tryz.prog 26 #[vL A c x] w fun e w' => e = .returned (.bool (apartB x)) ∧ Below w.heap.size w w' := by
  obtain ⟨nm, n, l, ⟨col, op, arg, nt⟩, has, whole, each, pat, wth⟩ := x
  unfold vL
  simp only at *
  have et := eql_t2
  have gt := grd_t2
  have hc : nm = 1 ∨ nm = 2 ∨ nm = 3 ∨ nm = 4 ∨ nm = 5 ∨ nm = 6 ∨ nm = 7 ∨ nm = 13 ∨ (nm == 1) = false ∧ (nm == 2) = false ∧ (nm == 3) = false ∧ (nm == 4) = false ∧ (nm == 5) = false ∧ (nm == 6) = false ∧ (nm == 7) = false ∧ (nm == 13) = false := by
    simp only [beq_eq_false_iff_ne]; omega
  have hi1 : isNum 1 = true := rfl
  have hi2 : isNum 2 = false := rfl
  have hi3 : isNum 3 = false := rfl
  have hi4 : isNum 4 = false := rfl
  have hi5 : isNum 5 = true := rfl
  have hi6 : isNum 6 = true := rfl
  have hi7 : isNum 7 = false := rfl
  have hi13 : isNum 13 = true := rfl
  have hio : (nm == 1) = false → (nm == 5) = false → (nm == 6) = false → (nm == 13) = false → isNum nm = false := fun a b c d => by simp [isNum, a, b, c, d]
  rcases hc with rfl | rfl | rfl | rfl | rfl | rfl | rfl | rfl | ⟨q1, q2, q3, q4, q5, q6, q7, q8⟩
  rotate_right
  · have hin := hio q1 q5 q6 q8
    clear hio hi1 hi2 hi3 hi4 hi5 hi6 hi7 hi13
    go_enter Tryz.func26, Tryz.ntmps26
    go_wp2_with (go_at_call 40; refine (numbered_any _ _).mono ?_; rintro e w' ⟨rfl, rfl⟩)
    all_goals
      go_ret
      refine ⟨ret_bool ?_, below_box _ _⟩
      go_light
      clear et gt
      simp only [beq_eq_false_iff_ne] at q1 q2 q3 q4 q5 q6 q7 q8
      simp_all [apartB, sameT, zT, toList_L]
  all_goals
    clear hio
    go_enter Tryz.func26, Tryz.ntmps26
    go_wp2_with (go_at_call 40; refine (numbered_any _ _).mono ?_; rintro e w' ⟨rfl, rfl⟩)
    all_goals
      go_ret
      refine ⟨ret_bool ?_, below_box _ _⟩
      go_light
      clear et gt
      simp_all [apartB, sameT, zT, toList_L]
end Go.Proofs.YtckmkhcahnijmaaGreatDoor
