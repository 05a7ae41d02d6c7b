/-
  Entries of a log in memory; bytes.Clone, raft.copied.
-/
import Derived.Test.YtocogcgnahbpkaaGreatProg
import Derived.Test.YtocogcgnahbpkaaGreatMem
import Derived.BigQuiet
import Derived.Deep.QuietTactic
import Derived.Deep.DeepCutAuto
import Derived.Deep.CutRange
import Derived.Deep.CutBlock
namespace Go.Proofs.YtocogcgnahbpkaaGreat
open Go.RowKit

/-- An entry as it lies in a row; beside it its bytes. -/
structure LE where
  idx : Int
  term : Int
  A : Option Addr
  n : Nat
  c : Nat
def encLE (x : LE) : List Value := [.int .i64 x.idx, .int .i64 x.term, .slice x.A x.n x.c]
def encB (x : Int) : List Value := [.int .u8 x]
def encI (x : Int) : List Value := [.int .i64 x]
theorem len_LE (x : LE) : (encLE x).length = 3 := rfl
theorem len_B (x : Int) : (encB x).length = 1 := rfl
theorem len_I (x : Int) : (encI x).length = 1 := rfl
theorem one_LE (x : LE) : ∀ u ∈ encLE x, u.oneCell' = true := by
  intro u hu
  simp only [encLE, List.mem_cons, List.not_mem_nil, or_false] at hu
  rcases hu with rfl | rfl | rfl <;> rfl
theorem one_B (x : Int) : ∀ u ∈ encB x, u.oneCell' = true := by
  intro u hu
  simp only [encB, List.mem_cons, List.not_mem_nil, or_false] at hu
  subst hu; rfl
theorem one_I (x : Int) : ∀ u ∈ encI x, u.oneCell' = true := by
  intro u hu
  simp only [encI, List.mem_cons, List.not_mem_nil, or_false] at hu
  subst hu; rfl

/-- What an entry says. -/
structure E where
  idx : Int
  term : Int
  data : List Int
def con (p : LE × List Int) : E := ⟨p.1.idx, p.1.term, p.2⟩

abbrev Bytes (w : World) (B : Nat) (A : Option Addr) (xs : List Int) : Prop := Row encB 1 w B A xs

/-- The entries at A, below block B. -/
structure Ents (w : World) (B : Nat) (A : Option Addr) (ps : List (LE × List Int)) : Prop where
  row : Row encLE 3 w B A (ps.map (·.1))
  each : ∀ p ∈ ps, Bytes w B p.1.A p.2 ∧ p.1.n = p.2.length ∧ p.2.length ≤ 140737488351232
theorem Ents.keep {w w' : World} {B : Nat} {A : Option Addr} {ps : List (LE × List Int)} (h : Ents w B A ps) (hb : ∀ p : Addr, p.block < B → w'.cell? p = w.cell? p) : Ents w' B A ps :=
  ⟨h.row.keep hb, fun p hp => ⟨(h.each p hp).1.keep hb, (h.each p hp).2⟩⟩
theorem Ents.below {w w' : World} {B : Nat} {A : Option Addr} {ps : List (LE × List Int)} (h : Ents w B A ps) (hb : Below B w w') : Ents w' B A ps := h.keep fun _ hp => hb.cell hp
theorem Ents.more {w : World} {B B' : Nat} {A : Option Addr} {ps : List (LE × List Int)} (h : Ents w B A ps) (hB : B ≤ B') : Ents w B' A ps :=
  ⟨h.row.more hB, fun p hp => ⟨(h.each p hp).1.more hB, (h.each p hp).2⟩⟩

theorem info5 : ∃ i z, Tryz.prog.info? 5 = some i ∧ i.zero = some z ∧ i.size = 1 ∧ i.bytes = 1 ∧ z.cells.size = 1 := by
  have h : (Tryz.prog.info? 5).map (fun i => (i.zero, i.size, i.bytes)) = some (some (.int .u8 0), 1, 1) := by kernel_rfl
  obtain ⟨i, hi, h0, h1, h2⟩ := info_parts h
  exact ⟨i, _, hi, h0, h1, h2, rfl⟩
theorem info67 : ∃ i z, Tryz.prog.info? 67 = some i ∧ i.zero = some z ∧ i.size = 3 ∧ i.bytes = 40 ∧ z.cells.size = 3 := by
  have h : (Tryz.prog.info? 67).map (fun i => (i.zero, i.size, i.bytes)) = some (some (.agg #[.int .i64 0, .int .i64 0, .slice none 0 0]), 3, 40) := by kernel_rfl
  obtain ⟨i, hi, h0, h1, h2⟩ := info_parts h
  exact ⟨i, _, hi, h0, h1, h2, rfl⟩

set_option maxHeartbeats 1000000 in
theorem bclone_any (A : Option Addr) (n c : Nat) (xs : List Int) (w : World) (hx : Bytes w w.heap.size A xs) (hl : n = xs.length) (hn : xs.length ≤ 140737488351232) :
    Calls Tryz.prog 79 #[.slice A n c] w fun e w' => ∃ v, e = .returned v ∧ Own encB 1 5 w' w.heap.size v xs ∧ Below w.heap.size w w' := by
  subst hl
  have q : ∀ (w : World) (a : Option Addr) (n c n' c' : Nat), (binOp .eql 65 (.slice a n c) (.slice none n' c')).run Tryz.prog w = .ok (.bool a.isNone) w := fun w a n c n' c' => Lib.run_eql_slice_nil w _ _ a n c n' c' Tryz.underlying65
  rcases A with _ | a
  · have : xs = [] := by
      rcases hx with h | ⟨b, o, h, _⟩
      · exact h
      · cases h
    subst this
    go_enter Tryz.func79, Tryz.ntmps79
    go_wp2
    go_ret
    exact ⟨_, rfl, Own.nil, Below.refl _ _⟩
  · have hmade : Own encB 1 5 (w.alloc (.cells #[] 5)) w.heap.size (.slice (some ⟨w.heap.size, 0, none⟩) 0 0) [] := World.ownsRow_made w #[] 0 (Nat.le_refl _) (Nat.zero_le _) (by simp)
    have hx' : Bytes (w.alloc (.cells #[] 5)) w.heap.size (some a) xs := hx.alloc (Nat.le_refl _) _
    go_enter Tryz.func79, Tryz.ntmps79
    go_wp2_with (at_builtin; refine wp_app _ encB 1 rfl _ _ 65 rfl w.heap.size 5 1 Tryz.underlying65 info5 (by omega) len_B one_B (.slice (some ⟨w.heap.size, 0, none⟩) 0 0) [] rfl hmade w.heap.size (some a) _ _ xs rfl rfl hx' (by simp; omega) (by simp; omega) (by simp) ?_; intro v1 w1 hown1 hg1 hat1 _)
    go_ret
    exact ⟨_, rfl, by simpa using hown1, ((Below.refl _ _).alloc (Nat.le_refl _) _).grown hg1 (by simp) (by intro k hk; simp [Value.ownBlock] at hk; omega)⟩
end Go.Proofs.YtocogcgnahbpkaaGreat
