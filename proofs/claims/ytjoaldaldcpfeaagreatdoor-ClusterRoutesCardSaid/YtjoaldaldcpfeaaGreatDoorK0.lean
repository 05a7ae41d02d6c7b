/-
  Configurations in memory.
-/
import Derived.Test.YtjoaldaldcpfeaaGreatDoorM1
import Derived.Test.YtjoaldaldcpfeaaGreatDoorD1
namespace Go.Proofs.YtjoaldaldcpfeaaGreatDoor
open Go.RowKit

/-- A replica's configuration: its cells' contents. -/
structure RC where
  id : Int
  pA : Option Addr
  pn : Nat
  pc : Nat
  le : Int
  mo : Int
  be : Int
  ba : Int
  blk : Int
  bits : Int
  mem : Int
  stall : Int
  wi : Int
  ra : Int
  pm : Int
  seg : Int
def RC.cells (r : RC) : Array Value := #[.int .i64 r.id, .slice r.pA r.pn r.pc, .int .i64 r.le, .int .i64 r.mo, .int .i64 r.be, .int .i64 r.ba, .int .i64 r.blk, .int .i64 r.bits, .int .i64 r.mem, .int .i64 r.stall, .int .i64 r.wi, .int .i64 r.ra, .int .i64 r.pm, .int .i64 r.seg]
/-- A cluster's configuration: its cells' contents. -/
structure CF where
  nodes : Int
  disk : Int
  fA : Option Addr
  fn : Nat
  fc : Nat
  sA : Option Addr
  sn : Nat
  sc : Nat
  r : RC
def CF.cells (c : CF) : Array Value := #[.int .i64 c.nodes, .int .i64 c.disk, .slice c.fA c.fn c.fc, .slice c.sA c.sn c.sc, .int .i64 c.r.id, .slice c.r.pA c.r.pn c.r.pc, .int .i64 c.r.le, .int .i64 c.r.mo, .int .i64 c.r.be, .int .i64 c.r.ba, .int .i64 c.r.blk, .int .i64 c.r.bits, .int .i64 c.r.mem, .int .i64 c.r.stall, .int .i64 c.r.wi, .int .i64 c.r.ra, .int .i64 c.r.pm, .int .i64 c.r.seg]
theorem rc_at {w : World} {b : Nat} {r : RC} {t : TypeId} (h : w.heap[b]? = some (.cells r.cells t (0, 0))) :
    w.cell? ⟨b, 0, none⟩ = some (.int .i64 r.id) ∧ w.cell? ⟨b, 1, none⟩ = some (.slice r.pA r.pn r.pc) ∧ w.cell? ⟨b, 2, none⟩ = some (.int .i64 r.le) ∧ w.cell? ⟨b, 3, none⟩ = some (.int .i64 r.mo) ∧ w.cell? ⟨b, 4, none⟩ = some (.int .i64 r.be) ∧ w.cell? ⟨b, 5, none⟩ = some (.int .i64 r.ba) ∧ w.cell? ⟨b, 6, none⟩ = some (.int .i64 r.blk) ∧ w.cell? ⟨b, 7, none⟩ = some (.int .i64 r.bits) ∧ w.cell? ⟨b, 8, none⟩ = some (.int .i64 r.mem) ∧ w.cell? ⟨b, 9, none⟩ = some (.int .i64 r.stall) ∧ w.cell? ⟨b, 10, none⟩ = some (.int .i64 r.wi) ∧ w.cell? ⟨b, 11, none⟩ = some (.int .i64 r.ra) ∧ w.cell? ⟨b, 12, none⟩ = some (.int .i64 r.pm) ∧ w.cell? ⟨b, 13, none⟩ = some (.int .i64 r.seg) :=
  ⟨cell_block h 0 _ rfl, cell_block h 1 _ rfl, cell_block h 2 _ rfl, cell_block h 3 _ rfl, cell_block h 4 _ rfl, cell_block h 5 _ rfl, cell_block h 6 _ rfl, cell_block h 7 _ rfl, cell_block h 8 _ rfl, cell_block h 9 _ rfl, cell_block h 10 _ rfl, cell_block h 11 _ rfl, cell_block h 12 _ rfl, cell_block h 13 _ rfl⟩
theorem cf_at {w : World} {b : Nat} {c : CF} {t : TypeId} (h : w.heap[b]? = some (.cells c.cells t (0, 0))) :
    w.cell? ⟨b, 0, none⟩ = some (.int .i64 c.nodes) ∧ w.cell? ⟨b, 1, none⟩ = some (.int .i64 c.disk) ∧ w.cell? ⟨b, 2, none⟩ = some (.slice c.fA c.fn c.fc) ∧ w.cell? ⟨b, 3, none⟩ = some (.slice c.sA c.sn c.sc) ∧ w.cell? ⟨b, 4, none⟩ = some (.int .i64 c.r.id) ∧ w.cell? ⟨b, 5, none⟩ = some (.slice c.r.pA c.r.pn c.r.pc) ∧ w.cell? ⟨b, 6, none⟩ = some (.int .i64 c.r.le) ∧ w.cell? ⟨b, 7, none⟩ = some (.int .i64 c.r.mo) ∧ w.cell? ⟨b, 8, none⟩ = some (.int .i64 c.r.be) ∧ w.cell? ⟨b, 9, none⟩ = some (.int .i64 c.r.ba) ∧ w.cell? ⟨b, 10, none⟩ = some (.int .i64 c.r.blk) ∧ w.cell? ⟨b, 11, none⟩ = some (.int .i64 c.r.bits) ∧ w.cell? ⟨b, 12, none⟩ = some (.int .i64 c.r.mem) ∧ w.cell? ⟨b, 13, none⟩ = some (.int .i64 c.r.stall) ∧ w.cell? ⟨b, 14, none⟩ = some (.int .i64 c.r.wi) ∧ w.cell? ⟨b, 15, none⟩ = some (.int .i64 c.r.ra) ∧ w.cell? ⟨b, 16, none⟩ = some (.int .i64 c.r.pm) ∧ w.cell? ⟨b, 17, none⟩ = some (.int .i64 c.r.seg) :=
  ⟨cell_block h 0 _ rfl, cell_block h 1 _ rfl, cell_block h 2 _ rfl, cell_block h 3 _ rfl, cell_block h 4 _ rfl, cell_block h 5 _ rfl, cell_block h 6 _ rfl, cell_block h 7 _ rfl, cell_block h 8 _ rfl, cell_block h 9 _ rfl, cell_block h 10 _ rfl, cell_block h 11 _ rfl, cell_block h 12 _ rfl, cell_block h 13 _ rfl, cell_block h 14 _ rfl, cell_block h 15 _ rfl, cell_block h 16 _ rfl, cell_block h 17 _ rfl⟩

def optOK (r : RC) : Prop := (64 ≤ r.blk ∧ r.blk ≤ 65536) ∧ (0 ≤ r.bits ∧ r.bits ≤ 20) ∧ (1 ≤ r.mem ∧ r.mem ≤ 4194304) ∧ (1 ≤ r.stall ∧ r.stall ≤ 64)
instance (r : RC) : Decidable (optOK r) := by unfold optOK; infer_instance

/-- The nodes' numbers. -/
def ids (n : Nat) : List Int := (List.range n).map fun (i : Nat) => (i : Int) + 1
theorem ids_len (n : Nat) : (ids n).length = n := by simp [ids]
theorem ids_snoc (n : Nat) : ids n ++ [(n : Int) + 1] = ids (n + 1) := by simp [ids, List.range_succ]

theorem row_one {α : Type} {enc : α → List Value} {sz : Nat} (w : World) (t : TypeId) (x : α) (B : Nat) (hB : w.heap.size < B) : Row enc sz (w.alloc (.cells (enc x).toArray t)) B (some ⟨w.heap.size, 0, none⟩) [x] := by
  refine .inr ⟨_, _, rfl, hB, fun k y hk j v hv => ?_⟩
  have hk0 : k = 0 := by have := (List.getElem?_eq_some_iff.1 hk).1; simp at this; exact this
  subst hk0
  simp at hk
  subst hk
  refine cell_block (World.alloc_at w _) _ _ ?_
  simpa using hv
end Go.Proofs.YtjoaldaldcpfeaaGreatDoor
