/- What all four statements of chapter 25 share: the tables that the rows list lie in the witness's world; the cell of the library's bound. -/
import Derived.Test.YtckmkhcahnijmaaGreatDoorY1
import Derived.Test.YtckmkhcahnijmaaGreatDoorS
import Derived.Test.YtckmkhcahnijmaaGreatDoorCards
import Derived.Test.YtckmkhcahnijmaaGreatDoorTie
import Derived.ProofKit
import Derived.OpenShut
import Derived.Lay
import Derived.Deep.DeepHandedRow
import Derived.SevenTiedAt
import Derived.Carry
import Derived.Below
namespace Go.Proofs.YtckmkhcahnijmaaGreatDoor
open Go.ChangeShapes Go.WideShapes Go.ChangeAt Go.RowKit

theorem own : ownKnob Tryz.prog.godebug = none := by kernel_rfl
theorem laidOut : laidOutB Tryz.prog = true := by kernel_rfl
theorem hm_of {W : World} (h : W.ShapedOpen Tryz.prog) : ∃ m, W.cell? ⟨0, 0, none⟩ = some (.int .i64 m) := Tryz.laysM219.s1_3 W h
def laidTwo : List (String × DataW Unit) := [("unicode/utf8.acceptRanges", Rows.laid_unicode_utf8_acceptRanges), ("unicode/utf8.first", Rows.laid_unicode_utf8_first)]
theorem laid_ok (os : Os) (args : Array Value) : laidMetH Tryz.prog laidTwo ((World.laidAll Tryz.prog os laidTwo).forCall (fun _ _ => 0) ⟨#[], args, []⟩).memory := by
  rw [MakeChecks.laidMetH_plain _ _ _ (by kernel_rfl)]
  exact laidMet_laidAll _ (by kernel_rfl) (by kernel_rfl)
/-- An empty line, as a value and as a datum: the witness. -/
def zArg : Value := .agg #[.int .i64 0, .int .i64 0, .slice none 0 0, .int .i64 0, .int .i64 0, .string ⟨#[]⟩, .bool false, .bool false, .bool false, .bool false, .string ⟨#[]⟩, .string ⟨#[]⟩]
def zDat {H : Type} : DataW H := .agg [.lit (.int .i64 0), .lit (.int .i64 0), .nil, .agg [.lit (.int .i64 0), .lit (.int .i64 0), .lit (.string []), .lit (.bool false)], .lit (.bool false), .lit (.bool false), .lit (.bool false), .lit (.string []), .lit (.string [])]
end Go.Proofs.YtckmkhcahnijmaaGreatDoor
