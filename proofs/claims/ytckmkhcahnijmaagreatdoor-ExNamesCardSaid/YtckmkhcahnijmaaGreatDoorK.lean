/- Equality of tests and of keys, as the machine runs it. -/
import Derived.Test.YtckmkhcahnijmaaGreatDoorF
import Derived.Laws.StructEq
namespace Go.Proofs.YtckmkhcahnijmaaGreatDoor
open Go.RowKit
theorem in_by (a c : Int) (b d : Bool) (w : World) : (Op.equalIn 10000 55 (.agg #[.int .i64 a, .bool b]) (.agg #[.int .i64 c, .bool d])).run Tryz.prog w = .ok (a == c && b == d) w := by
  have u3 := Tryz.underlying3
  have a3 := Tryz.isAgg3
  have z3 := Tryz.sizeOf3
  have u4 := Tryz.underlying4
  have a4 := Tryz.isAgg4
  have z4 := Tryz.sizeOf4
  have hS : Tryz.prog.underlying 55 = some (.struct (Tryz.prog.fieldsOf 55)) := by kernel_rfl
  have hp : Tryz.prog.stoodInHeld 55 = false := by kernel_rfl
  rw [show (10000 : Nat) = 9999 + 1 from rfl, run_equalIn_agg w 9999 55 _ _ hS hp]
  simp only [Program.fieldsOf, Tryz.underlying55]
  go_simp
  by_cases h1 : a = c <;> by_cases h2 : b = d <;> simp [h1, h2]
theorem in_t (a o a' o' : Int) (s s' : ByteArray) (b b' : Bool) (w : World) : (Op.equalIn 10000 24 (.agg #[.int .i64 a, .int .i64 o, .string s, .bool b]) (.agg #[.int .i64 a', .int .i64 o', .string s', .bool b'])).run Tryz.prog w = .ok (a == a' && (o == o' && (s.toList == s'.toList && b == b'))) w := by
  have u3 := Tryz.underlying3
  have a3 := Tryz.isAgg3
  have z3 := Tryz.sizeOf3
  have u4 := Tryz.underlying4
  have a4 := Tryz.isAgg4
  have z4 := Tryz.sizeOf4
  have u9 := Tryz.underlying9
  have a9 := Tryz.isAgg9
  have z9 := Tryz.sizeOf9
  have hS : Tryz.prog.underlying 24 = some (.struct (Tryz.prog.fieldsOf 24)) := by kernel_rfl
  have hp : Tryz.prog.stoodInHeld 24 = false := by kernel_rfl
  rw [show (10000 : Nat) = 9999 + 1 from rfl, run_equalIn_agg w 9999 24 _ _ hS hp]
  simp only [Program.fieldsOf, Tryz.underlying24]
  go_simp
  by_cases h1 : a = a' <;> by_cases h2 : o = o' <;> by_cases h3 : s.toList = s'.toList <;> by_cases h4 : b = b' <;> simp [h1, h2, h3, h4]
theorem neq_by (a c : Int) (b d : Bool) (w : World) : (binOp .neq 55 (.agg #[.int .i64 a, .bool b]) (.agg #[.int .i64 c, .bool d])).run Tryz.prog w = .ok (.bool (!(a == c && b == d))) w := by
  rw [run_neq_struct, in_by]; rfl
theorem eql_t (a o a' o' : Int) (s s' : ByteArray) (b b' : Bool) (w : World) : (binOp .eql 24 (.agg #[.int .i64 a, .int .i64 o, .string s, .bool b]) (.agg #[.int .i64 a', .int .i64 o', .string s', .bool b'])).run Tryz.prog w = .ok (.bool (a == a' && (o == o' && (s.toList == s'.toList && b == b')))) w := by
  rw [run_eql_struct, in_t]; rfl
theorem neq_t (a o a' o' : Int) (s s' : ByteArray) (b b' : Bool) (w : World) : (binOp .neq 24 (.agg #[.int .i64 a, .int .i64 o, .string s, .bool b]) (.agg #[.int .i64 a', .int .i64 o', .string s', .bool b'])).run Tryz.prog w = .ok (.bool (!(a == a' && (o == o' && (s.toList == s'.toList && b == b'))))) w := by
  rw [run_neq_struct, in_t]; rfl
theorem grd_t : Tryz.prog.eqGuardType Tryz.prog.depth 24 = false := by kernel_rfl
theorem grd_by : Tryz.prog.eqGuardType Tryz.prog.depth 55 = false := by kernel_rfl
end Go.Proofs.YtckmkhcahnijmaaGreatDoor
