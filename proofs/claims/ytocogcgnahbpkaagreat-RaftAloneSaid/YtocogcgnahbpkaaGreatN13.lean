/-
  raft.steps; raft.Node.Step of a node alone.
-/
import Derived.Test.YtocogcgnahbpkaaGreatN12
import Derived.Test.YtocogcgnahbpkaaGreatMem5
namespace Go.Proofs.YtocogcgnahbpkaaGreat
open Go.RowKit

def actCells : Array Value := #[.nilFunc, .func (.func 72) #[] #[], .func (.func 73) #[] #[], .func (.func 74) #[] #[], .func (.func 75) #[] #[], .func (.func 76) #[] #[], .func (.func 77) #[] #[], .func (.func 78) #[] #[]]

set_option maxRecDepth 100000 in
theorem steps_any (w : World) : Calls Tryz.prog 56 #[] w fun e w' => e = .returned (.slice (some ⟨w.heap.size, 0, none⟩) 8 8) ∧ w' = w.alloc (.cells actCells 129) := by
  go_enter Tryz.func56, Tryz.ntmps56
  go_wp2
  go_ret
  exact ⟨rfl, rfl⟩

theorem cells16 {w : World} {b : Nat} {a0 a1 a2 a3 a4 a5 a6 a7 a8 a9 a10 a11 a12 a13 a14 a15 : Value} {t : TypeId} (h : w.heap[b]? = some (.cells #[a0, a1, a2, a3, a4, a5, a6, a7, a8, a9, a10, a11, a12, a13, a14, a15] t (0, 0))) :
    w.cell? ⟨b, 0, none⟩ = some a0 ∧ w.cell? ⟨b, 1, none⟩ = some a1 ∧ w.cell? ⟨b, 2, none⟩ = some a2 ∧ w.cell? ⟨b, 3, none⟩ = some a3 ∧ w.cell? ⟨b, 4, none⟩ = some a4 ∧ w.cell? ⟨b, 5, none⟩ = some a5 ∧ w.cell? ⟨b, 6, none⟩ = some a6 ∧ w.cell? ⟨b, 7, none⟩ = some a7 ∧ w.cell? ⟨b, 8, none⟩ = some a8 ∧ w.cell? ⟨b, 9, none⟩ = some a9 ∧ w.cell? ⟨b, 10, none⟩ = some a10 ∧ w.cell? ⟨b, 11, none⟩ = some a11 ∧ w.cell? ⟨b, 12, none⟩ = some a12 ∧ w.cell? ⟨b, 13, none⟩ = some a13 ∧ w.cell? ⟨b, 14, none⟩ = some a14 ∧ w.cell? ⟨b, 15, none⟩ = some a15 :=
  ⟨cell_block h 0 _ rfl, cell_block h 1 _ rfl, cell_block h 2 _ rfl, cell_block h 3 _ rfl, cell_block h 4 _ rfl, cell_block h 5 _ rfl, cell_block h 6 _ rfl, cell_block h 7 _ rfl, cell_block h 8 _ rfl, cell_block h 9 _ rfl, cell_block h 10 _ rfl, cell_block h 11 _ rfl, cell_block h 12 _ rfl, cell_block h 13 _ rfl, cell_block h 14 _ rfl, cell_block h 15 _ rfl⟩

theorem cells12 {w : World} {b : Nat} {a0 a1 a2 a3 a4 a5 a6 a7 a8 a9 a10 a11 : Value} {t : TypeId} (h : w.heap[b]? = some (.cells #[a0, a1, a2, a3, a4, a5, a6, a7, a8, a9, a10, a11] t (0, 0))) :
    w.cell? ⟨b, 0, none⟩ = some a0 ∧ w.cell? ⟨b, 1, none⟩ = some a1 ∧ w.cell? ⟨b, 2, none⟩ = some a2 ∧ w.cell? ⟨b, 3, none⟩ = some a3 ∧ w.cell? ⟨b, 4, none⟩ = some a4 ∧ w.cell? ⟨b, 5, none⟩ = some a5 ∧ w.cell? ⟨b, 6, none⟩ = some a6 ∧ w.cell? ⟨b, 7, none⟩ = some a7 ∧ w.cell? ⟨b, 8, none⟩ = some a8 ∧ w.cell? ⟨b, 9, none⟩ = some a9 ∧ w.cell? ⟨b, 10, none⟩ = some a10 ∧ w.cell? ⟨b, 11, none⟩ = some a11 :=
  ⟨cell_block h 0 _ rfl, cell_block h 1 _ rfl, cell_block h 2 _ rfl, cell_block h 3 _ rfl, cell_block h 4 _ rfl, cell_block h 5 _ rfl, cell_block h 6 _ rfl, cell_block h 7 _ rfl, cell_block h 8 _ rfl, cell_block h 9 _ rfl, cell_block h 10 _ rfl, cell_block h 11 _ rfl⟩

/-- The block of a Ready is written as a whole. -/
theorem store12 {w : World} {y : Nat} {a0 a1 a2 a3 a4 a5 a6 a7 a8 a9 a10 a11 : Value} {t : TypeId} (h : w.heap[y]? = some (.cells #[a0, a1, a2, a3, a4, a5, a6, a7, a8, a9, a10, a11] t (0, 0))) (v0 v1 v2 v3 v4 v5 v6 v7 v8 v9 v10 v11 : Value) :
    (((((((((((((w.setCell ⟨y, 0, none⟩ v0).setCell ⟨y, 1, none⟩ v1).setCell ⟨y, 2, none⟩ v2).setCell ⟨y, 3, none⟩ v3).setCell ⟨y, 4, none⟩ v4).setCell ⟨y, 5, none⟩ v5).setCell ⟨y, 6, none⟩ v6).setCell ⟨y, 7, none⟩ v7).setCell ⟨y, 8, none⟩ v8).setCell ⟨y, 9, none⟩ v9).setCell ⟨y, 10, none⟩ v10).setCell ⟨y, 11, none⟩ v11)).heap[y]? = some (.cells #[v0, v1, v2, v3, v4, v5, v6, v7, v8, v9, v10, v11] t (0, 0)) ∧ (∀ i, i ≠ y → (((((((((((((w.setCell ⟨y, 0, none⟩ v0).setCell ⟨y, 1, none⟩ v1).setCell ⟨y, 2, none⟩ v2).setCell ⟨y, 3, none⟩ v3).setCell ⟨y, 4, none⟩ v4).setCell ⟨y, 5, none⟩ v5).setCell ⟨y, 6, none⟩ v6).setCell ⟨y, 7, none⟩ v7).setCell ⟨y, 8, none⟩ v8).setCell ⟨y, 9, none⟩ v9).setCell ⟨y, 10, none⟩ v10).setCell ⟨y, 11, none⟩ v11)).heap[i]? = w.heap[i]?) ∧ (((((((((((((w.setCell ⟨y, 0, none⟩ v0).setCell ⟨y, 1, none⟩ v1).setCell ⟨y, 2, none⟩ v2).setCell ⟨y, 3, none⟩ v3).setCell ⟨y, 4, none⟩ v4).setCell ⟨y, 5, none⟩ v5).setCell ⟨y, 6, none⟩ v6).setCell ⟨y, 7, none⟩ v7).setCell ⟨y, 8, none⟩ v8).setCell ⟨y, 9, none⟩ v9).setCell ⟨y, 10, none⟩ v10).setCell ⟨y, 11, none⟩ v11)).heap.size = w.heap.size ∧ (∀ w0 : World, Below y w0 w → Below y w0 (((((((((((((w.setCell ⟨y, 0, none⟩ v0).setCell ⟨y, 1, none⟩ v1).setCell ⟨y, 2, none⟩ v2).setCell ⟨y, 3, none⟩ v3).setCell ⟨y, 4, none⟩ v4).setCell ⟨y, 5, none⟩ v5).setCell ⟨y, 6, none⟩ v6).setCell ⟨y, 7, none⟩ v7).setCell ⟨y, 8, none⟩ v8).setCell ⟨y, 9, none⟩ v9).setCell ⟨y, 10, none⟩ v10).setCell ⟨y, 11, none⟩ v11))) := by
  refine ⟨?_, fun i hi => ?_, ?_, fun w0 hb => ?_⟩
  · have e := (block_setCell (o := 11) (block_setCell (o := 10) (block_setCell (o := 9) (block_setCell (o := 8) (block_setCell (o := 7) (block_setCell (o := 6) (block_setCell (o := 5) (block_setCell (o := 4) (block_setCell (o := 3) (block_setCell (o := 2) (block_setCell (o := 1) (block_setCell (o := 0) h v0) v1) v2) v3) v4) v5) v6) v7) v8) v9) v10) v11)
    rw [e]; simp
  · rw [Below.heap_setCell _ _ _ _ hi, Below.heap_setCell _ _ _ _ hi, Below.heap_setCell _ _ _ _ hi, Below.heap_setCell _ _ _ _ hi, Below.heap_setCell _ _ _ _ hi, Below.heap_setCell _ _ _ _ hi, Below.heap_setCell _ _ _ _ hi, Below.heap_setCell _ _ _ _ hi, Below.heap_setCell _ _ _ _ hi, Below.heap_setCell _ _ _ _ hi, Below.heap_setCell _ _ _ _ hi, Below.heap_setCell _ _ _ _ hi]
  · simp only [World.setCell, Array.size_modify]
  · exact ((((((((((((hb.setCell (Nat.le_refl _) _).setCell (Nat.le_refl _) _).setCell (Nat.le_refl _) _).setCell (Nat.le_refl _) _).setCell (Nat.le_refl _) _).setCell (Nat.le_refl _) _).setCell (Nat.le_refl _) _).setCell (Nat.le_refl _) _).setCell (Nat.le_refl _) _).setCell (Nat.le_refl _) _).setCell (Nat.le_refl _) _).setCell (Nat.le_refl _) _)
theorem cell_heap {w w' : World} {b : Nat} (h : w'.heap[b]? = w.heap[b]?) (o : Nat) : w'.cell? ⟨b, o, none⟩ = w.cell? ⟨b, o, none⟩ := by simp only [World.cell?, h]

/-- The node as a step begins. -/
theorem step_maps {W1 W2 : World} {F G : Nat → Prop} {b x : Nat} {s : NS} {c : NC} {draw : Int} (h : NdAt W1 F G b s c) (hb2 : Below W1.heap.size W1 W2) (hx : W1.heap.size ≤ x) (h1 : MB W2 x []) (hms : c.msgs = [] ∧ c.mA = none ∧ c.mn = 0 ∧ c.mc = 0) :
    NdAt ((((((W2.setCell ⟨b, 23, none⟩ (.int .i64 draw)).setCell ⟨b, 24, none⟩ (.slice none 0 0)).setCell ⟨b, 25, none⟩ (.map (some x))).setCell ⟨b, 26, none⟩ (.int .i64 0)).setCell ⟨b, 27, none⟩ (.int .i64 0)).setCell ⟨b, 28, none⟩ (.int .i64 0)) (fun i => F i ∨ i = x) G b { s with draw := draw, from_ := 0, first := 0, last := 0 } { c with snR := some x, sn := [] } := by
  have hF := h.rest.bdF
  have hB2 := (hb2.block b h.lt).trans h.blk
  have hbz := hF b h.hb
  have hxl := h1.lt
  have hot : ∀ i, i ≠ b → ((((((W2.setCell ⟨b, 23, none⟩ (.int .i64 draw)).setCell ⟨b, 24, none⟩ (.slice none 0 0)).setCell ⟨b, 25, none⟩ (.map (some x))).setCell ⟨b, 26, none⟩ (.int .i64 0)).setCell ⟨b, 27, none⟩ (.int .i64 0)).setCell ⟨b, 28, none⟩ (.int .i64 0)).heap[i]? = W2.heap[i]? := fun i hi => by
    rw [Below.heap_setCell _ _ _ _ hi, Below.heap_setCell _ _ _ _ hi, Below.heap_setCell _ _ _ _ hi, Below.heap_setCell _ _ _ _ hi, Below.heap_setCell _ _ _ _ hi, Below.heap_setCell _ _ _ _ hi]
  have hch0 : Chg (fun i => i = b) W2 ((((((W2.setCell ⟨b, 23, none⟩ (.int .i64 draw)).setCell ⟨b, 24, none⟩ (.slice none 0 0)).setCell ⟨b, 25, none⟩ (.map (some x))).setCell ⟨b, 26, none⟩ (.int .i64 0)).setCell ⟨b, 27, none⟩ (.int .i64 0)).setCell ⟨b, 28, none⟩ (.int .i64 0)) := chg1 (chg1 (chg1 (chg1 (chg1 (chg1 Chg.refl _) _) _) _) _) _
  have hch := (Chg.ofBelow (F := fun i => i = b) (a := W1) (b := W2) hb2).trans hch0
  have hr := h.rest
  have K : ∀ {β : Type} {venc : β → Value} {r l}, MapF venc W1 F r l → MapF venc ((((((W2.setCell ⟨b, 23, none⟩ (.int .i64 draw)).setCell ⟨b, 24, none⟩ (.slice none 0 0)).setCell ⟨b, 25, none⟩ (.map (some x))).setCell ⟨b, 26, none⟩ (.int .i64 0)).setCell ⟨b, 27, none⟩ (.int .i64 0)).setCell ⟨b, 28, none⟩ (.int .i64 0)) (fun i => F i ∨ i = x) r l := fun hm =>
    (hm.keepT fun i hi ⟨es, c, h1⟩ => (hot i (by rintro rfl; rw [h.blk] at h1; cases h1)).trans (hb2.block i (hF i hi))).mono fun i hi _ => .inl hi
  refine ⟨?_, .inl h.hb, NCAt.remaps (X := fun i => i = b) (F := F) (w := W1) hr h.blk h.hb hch (fun i hi => .inl hi) (fun i hi => .inl hi) ?_ ?_ (K hr.mt) (K hr.nx) (K hr.hd) (K hr.gr) (K hr.rf) ?_ ?_⟩
  · have e := block_setCell (o := 28) (block_setCell (o := 27) (block_setCell (o := 26) (block_setCell (o := 25) (block_setCell (o := 24) (block_setCell (o := 23) hB2 (.int .i64 draw)) (.slice none 0 0)) (.map (some x))) (.int .i64 0)) (.int .i64 0)) (.int .i64 0)
    rw [e]
    obtain ⟨e1, e2, e3, e4⟩ := hms
    simp [ncells, e2, e3, e4]
  · intro i hi
    rcases hi with hi | hi
    · exact .inl hi
    · right; omega
  · intro i hi
    simp only [World.setCell, Array.size_modify]
    have := hb2.size
    rcases hi with hi | hi
    · have := hF i hi; omega
    · omega
  · exact ⟨.inr rfl, h1.same (hot x (by omega))⟩
  · have ha := hr.apart
    have l1 := fun i hi => hF i (hr.mt.lt i hi).2
    have l2 := fun i hi => hF i (hr.nx.lt i hi).2
    have l3 := fun i hi => hF i (hr.gr.lt i hi).2
    have l4 := fun i hi => hF i (hr.hd.lt i hi).2
    have l5 := fun i hi => hF i (hr.rf.lt i hi).2
    clear K hot hch h1 hr h hB2 hch0 hb2
    revert ha l1 l2 l3 l4 l5
    rcases c.grR with _ | g <;> rcases c.rfR with _ | f <;> rcases c.snR with _ | n <;> rcases c.mtR with _ | a1 <;> rcases c.nxR with _ | a2 <;> rcases c.hdR with _ | a3 <;> simp <;> omega

/-- What an event's handler does. -/
structure Hand (f : Nat) (ev : NC → Prop) (b : Nat) (s0 s' : NS) (c0 : NC) (F G : Nat → Prop) (log' : List E) (w w' : World) (F' : Nat → Prop) (c' : NC) : Prop where
  nd : NdAt w' F' G b s' c'
  log : c'.log.map con = log'
  peers : c'.peers = c0.peers
  sn : c'.snR = c0.snR ∧ c'.sn = c0.sn
  msgs : c'.mA = c0.mA ∧ c'.mn = c0.mn ∧ c'.mc = c0.mc ∧ c'.msgs = c0.msgs
  chg : Chg F w w'
  sub : ∀ i, F i → F' i
  sub' : ∀ i, F' i → F i ∨ w.heap.size ≤ i
  q : ev c'

theorem Hand.from {f : Nat} {ev : NC → Prop} {b : Nat} {s0 s' : NS} {c0 : NC} {F G : Nat → Prop} {log' : List E} {W0 w w' : World} {F' : Nat → Prop} {c' : NC} (h : Hand f ev b s0 s' c0 F G log' w w' F' c') (hc : Chg F W0 w) : Hand f ev b s0 s' c0 F G log' W0 w' F' c' :=
  ⟨h.nd, h.log, h.peers, h.sn, h.msgs, hc.trans h.chg, h.sub, fun i hi => by
    have := hc.size
    rcases h.sub' i hi with h | h
    · exact .inl h
    · right; omega, h.q⟩

def readyV (s s' : NS) (n : Nat) (A : Option Addr) (m k : Nat) : Value := .agg #[.int .i64 s'.term, .int .i64 s'.vote, .bool (decide (s'.term ≠ s.term ∨ 0 < s'.from_)), .int .i64 (if 0 < s'.from_ then s'.from_ else s'.snap + n + 1), .slice A m k, .slice none 0 0, .int .i64 s'.commit, .slice none 0 0, .int .i64 s'.role, .int .i64 s'.leader, .int .i64 s'.first, .int .i64 s'.last]

/-- The node and what it says behind a step. -/
structure Stepped (w w' : World) (F : Nat → Prop) (b : Nat) (s' : NS) (c : NC) (log' : List E) (Q : NC → Prop) (F' : Nat → Prop) (c' : NC) (A : Option Addr) (n k : Nat) (qs : List (LE × List Int)) (S : Nat → Prop) : Prop where
  nd : NdAt w' F' (fun _ => False) b s' c'
  log : c'.log.map con = log'
  peers : c'.peers = c.peers
  msgs : c'.msgs = [] ∧ c'.mA = none ∧ c'.mn = 0 ∧ c'.mc = 0
  chg : Chg F w w'
  sub : ∀ i, F i → F' i
  sub' : ∀ i, F' i → F i ∨ w.heap.size ≤ i
  q : Q c'
  ents : EntsS w' S A qs
  len : n = qs.length ∧ n ≤ k
  fresh : ∀ i, S i → w.heap.size ≤ i ∧ i < w'.heap.size ∧ ¬ F' i
  con : qs.map con = if 0 < s'.from_ then log'.drop (s'.from_ - s'.snap - 1).toNat else []

end Go.Proofs.YtocogcgnahbpkaaGreat
