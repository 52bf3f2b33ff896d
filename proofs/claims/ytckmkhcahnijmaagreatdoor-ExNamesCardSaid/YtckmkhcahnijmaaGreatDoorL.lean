/- Small laws for the walks: an append of one element onto a row of the call's own; readings that stay. -/
import Derived.WalkKit
import Derived.WalkSpells
import Derived.WalkLawsBesides
import Derived.Lib.Hide
import Derived.Deep.AppendLies
import Derived.Deep.DeepCutAuto
import Derived.Deep.RegionHeld3
import Derived.Deep.QuietTactic
import Derived.BigQuiet
import Derived.StillTailTactics
namespace Go.Proofs.YtckmkhcahnijmaaGreatDoor
open Go.RowKit
set_option linter.unusedVariables false

section
variable {P : Program} {ops : Array Oper} {rest : List Oper} {o : Oper} {a : Act} {Q : Exit → Act → World → Prop}

/-- 'append(v, x)', x laid into a block of its own just now; elements of any number of cells. -/
theorem appN (W : World) (hgd : o.guard = none) (s x : Operand) (T : TypeId) (ho : o.op = .call { callee := .builtin .append, args := #[s, x], argTypes := #[T, T] })
    (base : Nat) (E : TypeId) (i : TypeInfo) (z : Value) (size bytes : Nat) (ht : P.underlying T = some (.slice E)) (hi : P.info? E = some i) (hz : i.zero = some z)
    (hsize : i.size = size) (hby : i.bytes = bytes) (hzs : z.cells.size = size) (hsz : 0 < size) (v : Value) (n : Nat) (xs : List Value) (hs : a.eval s = v) (hown : W.ownsRow base E size v n xs)
    (us : List Value) (hul : us.length = size) (hu1 : ∀ u ∈ us, u.oneCell' = true) (hx : a.eval x = .slice (some ⟨W.heap.size, 0, none⟩) 1 1) (hn : n ≤ 100000000) (hbs : bytes ≤ 1000) (hbase : base ≤ W.heap.size)
    (h : ∀ g cap w1, w1.ownsRow base E size (.slice (some ⟨g, 0, none⟩) (n + 1) cap) (n + 1) (xs ++ us) → (∀ w0, Below base w0 W → Below base w0 w1) → (v.ownBlock = some g ∨ g = W.heap.size + 1) →
      wpList P ops Q rest (a.put o.dst (.slice (some ⟨g, 0, none⟩) (n + 1) cap)) w1) :
    wpList P ops Q (o :: rest) a (W.alloc (.cells us.toArray E)) := by
  have hnews : ∀ j u, us[j]? = some u → (W.alloc (.cells us.toArray E)).cell? ((⟨W.heap.size, 0, none⟩ : Addr).add j) = some u := World.news_of_block (heap_alloc_new _ _)
  have hmul : (n + 1) * bytes ≤ 100000001 * 1000 := Nat.mul_le_mul (by omega) hbs
  refine wpList_append_lies _ hgd s x T ho base E i z size bytes ht hi hz hsize hby hzs hsz v n xs hs (hown.alloc _) ⟨W.heap.size, 0, none⟩ 1 1 us hx (by rw [hul, Nat.one_mul])
    hnews hu1 (by omega) (by simp only [maxLen]; omega) (by omega) (by simp; omega) _ rfl ?_
  intro g cap w1 hown1 hgrow hat hlt
  refine h g cap w1 hown1 (fun w0 hb => ?_) (by simpa using hat)
  exact (hb.alloc hbase _).grown hgrow (by simp; omega) fun k hk => (hown.lt k hk).1
/-- The same, for elements of one cell. -/
theorem app1 (W : World) (hgd : o.guard = none) (s x : Operand) (T : TypeId) (ho : o.op = .call { callee := .builtin .append, args := #[s, x], argTypes := #[T, T] })
    (base : Nat) (E : TypeId) (i : TypeInfo) (z : Value) (bytes : Nat) (ht : P.underlying T = some (.slice E)) (hi : P.info? E = some i) (hz : i.zero = some z)
    (hsize : i.size = 1) (hby : i.bytes = bytes) (hzs : z.cells.size = 1) (v : Value) (n : Nat) (xs : List Value) (hs : a.eval s = v) (hown : W.ownsRow base E 1 v n xs)
    (u : Value) (hu1 : u.oneCell' = true) (hx : a.eval x = .slice (some ⟨W.heap.size, 0, none⟩) 1 1) (hn : n ≤ 100000000) (hbs : bytes ≤ 1000) (hbase : base ≤ W.heap.size)
    (h : ∀ g cap w1, w1.ownsRow base E 1 (.slice (some ⟨g, 0, none⟩) (n + 1) cap) (n + 1) (xs ++ [u]) → (∀ w0, Below base w0 W → Below base w0 w1) → (v.ownBlock = some g ∨ g = W.heap.size + 1) →
      wpList P ops Q rest (a.put o.dst (.slice (some ⟨g, 0, none⟩) (n + 1) cap)) w1) :
    wpList P ops Q (o :: rest) a (W.alloc (.cells #[u] E)) :=
  appN W hgd s x T ho base E i z 1 bytes ht hi hz hsize hby hzs (by omega) v n xs hs hown [u] rfl (by simpa using hu1) hx hn hbs hbase h
end
theorem keep_cell {w w1 : World} (hb : Below w.heap.size w w1) {a : Addr} {v : Value} (hc : w.cell? a = some v) : w1.cell? a = some v := (hb.cell (World.block_lt_of_cell? w a hc)).trans hc
theorem keep_below {B : Nat} {a w w1 : World} (h : Below B a w) (hb : Below w.heap.size w w1) (hB : B ≤ w.heap.size) : Below B a w1 := h.trans (hb.mono hB)
theorem below_box (w : World) (o : Obj) : Below w.heap.size w (w.alloc o) := (Below.refl _ _).alloc (Nat.le_refl _) _
theorem below_box2 (w : World) (o p : Obj) : Below w.heap.size w ((w.alloc o).alloc p) := (below_box w o).alloc (below_box w o).size _
theorem below_drewN {B : Nat} {a w : World} (h : Below B a w) (n : Nat) : Below B a (w.drewN n) := ⟨h.os, h.tape, h.output, h.size, h.block⟩
end Go.Proofs.YtckmkhcahnijmaaGreatDoor
