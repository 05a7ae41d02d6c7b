/-
  Bytes, ints and rows of bytes in memory; slices.Clone, slices.Contains at []int, bytes.Clone, slices.Clone at []api.Family, bytes.Compare.
-/
import Derived.Test.YtjoaldaldcpfeaaGreatDoorC5
import Derived.Test.YtjoaldaldcpfeaaGreatDoorP1
import Derived.Test.YtjoaldaldcpfeaaGreatDoorC3
namespace Go.Proofs.YtjoaldaldcpfeaaGreatDoor
open Go.RowKit

def encB (x : Int) : List Value := [.int .u8 x]
def encI (x : Int) : List Value := [.int .i64 x]
theorem len_B (x : Int) : (encB x).length = 1 := rfl
theorem len_I (x : Int) : (encI x).length = 1 := rfl
theorem one_B (x : Int) : ∀ u ∈ encB x, u.oneCell' = true := by
  intro u hu
  simp only [encB, List.mem_cons, List.not_mem_nil, or_false] at hu
  subst hu; rfl
theorem one_I (x : Int) : ∀ u ∈ encI x, u.oneCell' = true := by
  intro u hu
  simp only [encI, List.mem_cons, List.not_mem_nil, or_false] at hu
  subst hu; rfl

/-- A row of bytes, as its slice lies in memory. -/
structure BR where
  A : Option Addr
  n : Nat
  c : Nat
def encBR (x : BR) : List Value := [.slice x.A x.n x.c]
theorem len_BR (x : BR) : (encBR x).length = 1 := rfl
theorem one_BR (x : BR) : ∀ u ∈ encBR x, u.oneCell' = true := by
  intro u hu
  simp only [encBR, List.mem_cons, List.not_mem_nil, or_false] at hu
  subst hu; rfl

abbrev Bytes (w : World) (B : Nat) (A : Option Addr) (xs : List Int) : Prop := Row encB 1 w B A xs

/-- Rows of bytes at A, below block B. -/
structure Rows2 (w : World) (B : Nat) (A : Option Addr) (ps : List (BR × List Int)) : Prop where
  row : Row encBR 1 w B A (ps.map (·.1))
  each : ∀ p ∈ ps, Bytes w B p.1.A p.2 ∧ p.1.n = p.2.length ∧ p.2.length ≤ 140737488351232
theorem Rows2.keep {w w' : World} {B : Nat} {A : Option Addr} {ps : List (BR × List Int)} (h : Rows2 w B A ps) (hb : ∀ p : Addr, p.block < B → w'.cell? p = w.cell? p) : Rows2 w' B A ps :=
  ⟨h.row.keep hb, fun p hp => ⟨(h.each p hp).1.keep hb, (h.each p hp).2⟩⟩
theorem Rows2.below {w w' : World} {B : Nat} {A : Option Addr} {ps : List (BR × List Int)} (h : Rows2 w B A ps) (hb : Below B w w') : Rows2 w' B A ps := h.keep fun _ hp => hb.cell hp
theorem Rows2.more {w : World} {B B' : Nat} {A : Option Addr} {ps : List (BR × List Int)} (h : Rows2 w B A ps) (hB : B ≤ B') : Rows2 w B' A ps :=
  ⟨h.row.more hB, fun p hp => ⟨(h.each p hp).1.more hB, (h.each p hp).2⟩⟩
theorem Rows2.at_ {w : World} {B : Nat} {A : Option Addr} {ps : List (BR × List Int)} (h : Rows2 w B A ps) {k : Nat} {p : BR × List Int} (hk : ps[k]? = some p) :
    ∃ b o, A = some ⟨b, o, none⟩ ∧ b < B ∧ w.cell? ⟨b, o + k, none⟩ = some (.slice p.1.A p.2.length p.1.c) ∧ Bytes w B p.1.A p.2 ∧ p.2.length ≤ 140737488351232 := by
  obtain ⟨b, o, hA, hb, hc⟩ := h.row.at_ (k := k) (x := p.1) (by rw [List.getElem?_map, hk]; rfl)
  obtain ⟨h1, h2, h3⟩ := h.each p (List.mem_of_getElem? hk)
  refine ⟨b, o, hA, hb, ?_, h1, h3⟩
  have := hc 0 _ rfl
  rw [← h2]
  simpa using this

theorem info3 : ∃ i z, Tryz.prog.info? 3 = some i ∧ i.zero = some z ∧ i.size = 1 ∧ i.bytes = 8 ∧ z.cells.size = 1 := by
  have h : (Tryz.prog.info? 3).map (fun i => (i.zero, i.size, i.bytes)) = some (some (.int .i64 0), 1, 8) := by kernel_rfl
  obtain ⟨i, hi, h0, h1, h2⟩ := info_parts h
  exact ⟨i, _, hi, h0, h1, h2, rfl⟩
theorem info5 : ∃ i z, Tryz.prog.info? 5 = some i ∧ i.zero = some z ∧ i.size = 1 ∧ i.bytes = 1 ∧ z.cells.size = 1 := by
  have h : (Tryz.prog.info? 5).map (fun i => (i.zero, i.size, i.bytes)) = some (some (.int .u8 0), 1, 1) := by kernel_rfl
  obtain ⟨i, hi, h0, h1, h2⟩ := info_parts h
  exact ⟨i, _, hi, h0, h1, h2, rfl⟩
theorem info48 : ∃ i z, Tryz.prog.info? 48 = some i ∧ i.zero = some z ∧ i.size = 1 ∧ i.bytes = 24 ∧ z.cells.size = 1 := by
  have h : (Tryz.prog.info? 48).map (fun i => (i.zero, i.size, i.bytes)) = some (some (.slice none 0 0), 1, 24) := by kernel_rfl
  obtain ⟨i, hi, h0, h1, h2⟩ := info_parts h
  exact ⟨i, _, hi, h0, h1, h2, rfl⟩
theorem info66 : ∃ i z, Tryz.prog.info? 66 = some i ∧ i.zero = some z ∧ i.size = 3 ∧ i.bytes = 32 ∧ z.cells.size = 3 := by
  have h : (Tryz.prog.info? 66).map (fun i => (i.zero, i.size, i.bytes)) = some (some (.agg #[.string ByteArray.empty, .int .i64 0, .int .i64 0]), 3, 32) := by kernel_rfl
  obtain ⟨i, hi, h0, h1, h2⟩ := info_parts h
  exact ⟨i, _, hi, h0, h1, h2, rfl⟩

theorem ints_at {w : World} {B k : Nat} {A : Option Addr} {xs : List Int} {x : Int} (h : Row encI 1 w B A xs) (hk : xs[k]? = some x) : ∃ b o, A = some ⟨b, o, none⟩ ∧ b < B ∧ w.cell? ⟨b, o + k, none⟩ = some (.int .i64 x) := by
  obtain ⟨b, o, hA, hb, hc⟩ := h.at_ hk
  exact ⟨b, o, hA, hb, by simpa using hc 0 _ rfl⟩

set_option maxHeartbeats 1000000 in
theorem bclone_any (A : Option Addr) (n c : Nat) (xs : List Int) (w : World) (hx : Bytes w w.heap.size A xs) (hl : n = xs.length) (hn : xs.length ≤ 140737488351232) :
    Calls Tryz.prog 22 #[.slice A n c] w fun e w' => ∃ v, e = .returned v ∧ Own encB 1 5 w' w.heap.size v xs ∧ Below w.heap.size w w' := by
  subst hl
  have q : ∀ (w : World) (a : Option Addr) (n c n' c' : Nat), (binOp .eql 48 (.slice a n c) (.slice none n' c')).run Tryz.prog w = .ok (.bool a.isNone) w := fun w a n c n' c' => Lib.run_eql_slice_nil w _ _ a n c n' c' Tryz.underlying48
  rcases A with _ | a
  · have : xs = [] := by
      rcases hx with h | ⟨b, o, h, _⟩
      · exact h
      · cases h
    subst this
    go_enter Tryz.func22, Tryz.ntmps22
    go_wp2
    go_ret
    exact ⟨_, rfl, Own.nil, Below.refl _ _⟩
  · have hmade : Own encB 1 5 (w.alloc (.cells #[] 5)) w.heap.size (.slice (some ⟨w.heap.size, 0, none⟩) 0 0) [] := World.ownsRow_made w #[] 0 (Nat.le_refl _) (Nat.zero_le _) (by simp)
    have hx' : Bytes (w.alloc (.cells #[] 5)) w.heap.size (some a) xs := hx.alloc (Nat.le_refl _) _
    go_enter Tryz.func22, Tryz.ntmps22
    go_wp2_with (at_builtin; refine wp_app _ encB 1 rfl _ _ 48 rfl w.heap.size 5 1 Tryz.underlying48 info5 (by omega) len_B one_B (.slice (some ⟨w.heap.size, 0, none⟩) 0 0) [] rfl hmade w.heap.size (some a) _ _ xs rfl rfl hx' (by simp; omega) (by simp; omega) (by simp) ?_; intro v1 w1 hown1 hg1 hat1 _)
    go_ret
    exact ⟨_, rfl, by simpa using hown1, ((Below.refl _ _).alloc (Nat.le_refl _) _).grown hg1 (by simp) (by intro k hk; simp [Value.ownBlock] at hk; omega)⟩

set_option maxHeartbeats 1000000 in
theorem iclone_any (A : Option Addr) (n c : Nat) (xs : List Int) (w : World) (hx : Row encI 1 w w.heap.size A xs) (hl : n = xs.length) (hn : xs.length ≤ 1000000) :
    Calls Tryz.prog 37 #[.slice A n c] w fun e w' => ∃ v, e = .returned v ∧ Own encI 1 3 w' w.heap.size v xs ∧ Below w.heap.size w w' := by
  subst hl
  have q : ∀ (w : World) (a : Option Addr) (n c n' c' : Nat), (binOp .eql 26 (.slice a n c) (.slice none n' c')).run Tryz.prog w = .ok (.bool a.isNone) w := fun w a n c n' c' => Lib.run_eql_slice_nil w _ _ a n c n' c' Tryz.underlying26
  rcases A with _ | a
  · have : xs = [] := by
      rcases hx with h | ⟨b, o, h, _⟩
      · exact h
      · cases h
    subst this
    go_enter Tryz.func37, Tryz.ntmps37
    go_wp2
    go_ret
    exact ⟨_, rfl, Own.nil, Below.refl _ _⟩
  · have hmade : Own encI 1 3 (w.alloc (.cells #[] 3)) w.heap.size (.slice (some ⟨w.heap.size, 0, none⟩) 0 0) [] := World.ownsRow_made w #[] 0 (Nat.le_refl _) (Nat.zero_le _) (by simp)
    have hx' : Row encI 1 (w.alloc (.cells #[] 3)) w.heap.size (some a) xs := hx.alloc (Nat.le_refl _) _
    go_enter Tryz.func37, Tryz.ntmps37
    go_wp2_with (at_builtin; refine wp_app _ encI 1 rfl _ _ 26 rfl w.heap.size 3 8 Tryz.underlying26 info3 (by omega) len_I one_I (.slice (some ⟨w.heap.size, 0, none⟩) 0 0) [] rfl hmade w.heap.size (some a) _ _ xs rfl rfl hx' (by simp; omega) (by simp; omega) (by simp) ?_; intro v1 w1 hown1 hg1 hat1 _)
    go_ret
    exact ⟨_, rfl, by simpa using hown1, ((Below.refl _ _).alloc (Nat.le_refl _) _).grown hg1 (by simp) (by intro k hk; simp [Value.ownBlock] at hk; omega)⟩

set_option maxHeartbeats 1000000 in
theorem fclone_any (A : Option Addr) (n c : Nat) (xs : List FM) (w : World) (hx : Row encFM 3 w w.heap.size A xs) (hl : n = xs.length) (hn : xs.length ≤ 1000000) :
    Calls Tryz.prog 21 #[.slice A n c] w fun e w' => ∃ v, e = .returned v ∧ Own encFM 3 66 w' w.heap.size v xs ∧ Below w.heap.size w w' := by
  subst hl
  have q : ∀ (w : World) (a : Option Addr) (n c n' c' : Nat), (binOp .eql 22 (.slice a n c) (.slice none n' c')).run Tryz.prog w = .ok (.bool a.isNone) w := fun w a n c n' c' => Lib.run_eql_slice_nil w _ _ a n c n' c' Tryz.underlying22
  rcases A with _ | a
  · have : xs = [] := by
      rcases hx with h | ⟨b, o, h, _⟩
      · exact h
      · cases h
    subst this
    go_enter Tryz.func21, Tryz.ntmps21
    go_wp2
    go_ret
    exact ⟨_, rfl, Own.nil, Below.refl _ _⟩
  · have hmade : Own encFM 3 66 (w.alloc (.cells #[] 66)) w.heap.size (.slice (some ⟨w.heap.size, 0, none⟩) 0 0) [] := World.ownsRow_made w #[] 0 (Nat.le_refl _) (Nat.zero_le _) (by simp)
    have hx' : Row encFM 3 (w.alloc (.cells #[] 66)) w.heap.size (some a) xs := hx.alloc (Nat.le_refl _) _
    go_enter Tryz.func21, Tryz.ntmps21
    go_wp2_with (at_builtin; refine wp_app _ encFM 3 rfl _ _ 22 rfl w.heap.size 66 32 Tryz.underlying22 info66 (by omega) len_FM one_FM (.slice (some ⟨w.heap.size, 0, none⟩) 0 0) [] rfl hmade w.heap.size (some a) _ _ xs rfl rfl hx' (by simp; omega) (by simp; omega) (by simp) ?_; intro v1 w1 hown1 hg1 hat1 _)
    go_ret
    exact ⟨_, rfl, by simpa using hown1, ((Below.refl _ _).alloc (Nat.le_refl _) _).grown hg1 (by simp) (by intro k hk; simp [Value.ownBlock] at hk; omega)⟩

theorem bytes_str {w : World} {B n c : Nat} {A : Option Addr} {xs : List Int} (h : Bytes w B A xs) (hn : n = xs.length) : (convert 48 9 (.slice A n c)).run Tryz.prog w = .ok (.string (strOfNums xs)) w := by
  subst hn
  rcases h with rfl | ⟨b, o, rfl, _, hc⟩
  · cases A with
    | none => exact run_convert_bytes_nil w 48 5 Tryz.underlying48 Tryz.underlying5 _ _ 9 Tryz.underlying9
    | some a =>
      rw [run_convert_bytes_string w 48 9 5 _ _ c Tryz.underlying48 Tryz.underlying5 Tryz.underlying9, run_bytesToString w a _ c [] (by simpa using run_loadCells_list (P := Tryz.prog) w a [] (by simp))]
      rfl
  · refine run_convert_bytes_arg w 48 5 Tryz.underlying48 Tryz.underlying5 b o _ c xs rfl (fun i hi => ?_) 9 Tryz.underlying9
    have := hc i xs[i] (List.getElem?_eq_getElem hi) 0 _ rfl
    simpa [List.getD, List.getElem?_eq_getElem hi] using this
end Go.Proofs.YtjoaldaldcpfeaaGreatDoor
