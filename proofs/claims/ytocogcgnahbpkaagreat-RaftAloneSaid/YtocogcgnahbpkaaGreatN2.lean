/-
  raft: stuck, follow; slices.Index, Contains, Clone at []int; goes, configured, stated where they say yes.
-/
import Derived.Test.YtocogcgnahbpkaaGreatN1
namespace Go.Proofs.YtocogcgnahbpkaaGreat
open Go.RowKit

theorem chg1 {a w : World} {b o : Nat} (h : Chg (fun x => x = b) a w) (u : Value) : Chg (fun x => x = b) a (w.setCell ⟨b, o, none⟩ u) := h.setCell (.inl rfl) u
theorem chgF {F : Nat → Prop} {a w : World} {b o : Nat} (h : Chg F a w) (hb : F b) (u : Value) : Chg F a (w.setCell ⟨b, o, none⟩ u) := h.setCell (.inl hb) u

def stuckB (s : NS) (n : Nat) : Bool := decide (s.term = 1099511627776 ∨ s.snap + n = 1099511627776 ∨ n = 65536)

set_option maxRecDepth 100000 in
set_option maxHeartbeats 1000000 in
theorem stuck_any (b : Nat) (s : NS) (c : NC) (w : World) (h : w.heap[b]? = some (.cells (ncells s c) 126 (0, 0))) (h0 : 0 ≤ s.snap) (h1 : s.snap ≤ 4611686018427387904) (h2 : c.ln ≤ 4611686018427387) :
    Calls Tryz.prog 136 #[.pointer (some ⟨b, 0, none⟩)] w fun e w' => e = .returned (.bool (stuckB s c.ln)) ∧ ∃ n, w' = w.drewN n := by
  have c6 := nc6 h
  have c8 := nc8 h
  by_cases t1 : s.term = 1099511627776
  · have b1 : (s.term == 1099511627776) = true := by simpa using t1
    have HS := Lib.hid (show stuckB s c.ln = true by simp [stuckB, t1])
    clear t1
    go_enter Tryz.func136, Tryz.ntmps136
    go_wp2
    go_ret
    exact ⟨by rw [HS.out]; rfl, 0, rfl⟩
  · have b1 : (s.term == 1099511627776) = false := by simpa using t1
    by_cases t2 : s.snap + c.ln = 1099511627776
    · have b2 : (s.snap + (c.ln : Int) == 1099511627776) = true := by simpa using t2
      have HS := Lib.hid (show stuckB s c.ln = true by simp [stuckB, t2])
      clear t1 t2
      go_enter Tryz.func136, Tryz.ntmps136
      go_wp2_with (go_at_call 57; refine (end_any b s c _ h (by omega) h1 h2).mono ?_; rintro e w' ⟨rfl, nq, rfl⟩)
      go_ret
      exact ⟨by rw [HS.out]; rfl, _, rfl⟩
    · have b2 : (s.snap + (c.ln : Int) == 1099511627776) = false := by simpa using t2
      have HS := Lib.hid (show stuckB s c.ln = decide (c.ln = 65536) by simp [stuckB, t1, t2])
      clear t1 t2
      go_enter Tryz.func136, Tryz.ntmps136
      go_wp2_with (go_at_call 57; refine (end_any b s c _ h (by omega) h1 h2).mono ?_; rintro e w' ⟨rfl, nq, rfl⟩)
      go_ret
      exact ⟨by rw [HS.out]; exact ret_bool (by rw [Bool.eq_iff_iff, beq_iff_eq, decide_eq_true_eq]; omega), _, rfl⟩

def NS.follow (s : NS) (t l : Int) : NS := NS.rest { s with role := 1, term := if s.term < t then t else s.term, vote := if s.term < t then 0 else s.vote, leader := l, heir := 0 }

set_option maxRecDepth 100000 in
set_option maxHeartbeats 1000000 in
theorem follow_any (b : Nat) (s : NS) (c : NC) (t l : Int) (w : World) (h : w.heap[b]? = some (.cells (ncells s c) 126 (0, 0))) (h0 : 0 ≤ s.least) (h1 : s.least ≤ s.most) (h2 : s.most ≤ 1000) :
    Calls Tryz.prog 97 #[.pointer (some ⟨b, 0, none⟩), .int .i64 t, .int .i64 l] w fun e w' => e = .returned (.tuple #[]) ∧ Chg (· = b) w w' ∧ w'.heap[b]? = some (.cells (ncells (s.follow t l) c) 126 (0, 0)) := by
  have c6 := nc6 h
  have c7 := nc7 h
  have c12 := nc12 h
  have c13 := nc13 h
  have c20 := nc20 h
  have hf := frozen_block h
  by_cases ht : s.term < t
  · have HF := Lib.hid (show s.follow t l = NS.rest { s with role := 1, term := t, vote := 0, leader := l, heir := 0 } by simp [NS.follow, ht])
    have hb := block_setCell (o := 20) (block_setCell (o := 13) (block_setCell (o := 7) (block_setCell (o := 6) (block_setCell (o := 12) h (.int .i64 1)) (.int .i64 t)) (.int .i64 0)) (.int .i64 l)) (.int .i64 0)
    have HB := Lib.hid hb
    clear hb
    go_enter Tryz.func97, Tryz.ntmps97
    go_wp2_with (go_at_call 66; refine (rest_any b { s with role := 1, term := t, vote := 0, leader := l, heir := 0 } c _ HB.out h0 h1 h2).mono ?_; rintro e w' ⟨rfl, hc, hb'⟩; have HB' := Lib.hid hb'; clear hb')
    go_end0
    refine ⟨rfl, ?_, by rw [HF.out]; exact HB'.out⟩
    refine Chg.trans (F := (· = b)) ?_ hc
    repeat (first | exact Chg.refl | refine chg1 ?_ _)
  · have HF := Lib.hid (show s.follow t l = NS.rest { s with role := 1, leader := l, heir := 0 } by simp [NS.follow, ht])
    have hb := block_setCell (o := 20) (block_setCell (o := 13) (block_setCell (o := 12) h (.int .i64 1)) (.int .i64 l)) (.int .i64 0)
    have HB := Lib.hid hb
    clear hb
    go_enter Tryz.func97, Tryz.ntmps97
    go_wp2_with (go_at_call 66; refine (rest_any b { s with role := 1, leader := l, heir := 0 } c _ HB.out h0 h1 h2).mono ?_; rintro e w' ⟨rfl, hc, hb'⟩; have HB' := Lib.hid hb'; clear hb')
    go_end0
    refine ⟨rfl, ?_, by rw [HF.out]; exact HB'.out⟩
    refine Chg.trans (F := (· = b)) ?_ hc
    repeat (first | exact Chg.refl | refine chg1 ?_ _)

/-! ### slices of ints -/
def ixf (xs : List Int) (x : Int) : Int := if x ∈ xs then (xs.findIdx (· = x) : Nat) else -1

theorem ints_at {w : World} {B k : Nat} {A : Option Addr} {xs : List Int} {x : Int} (h : Row encI 1 w B A xs) (hk : xs[k]? = some x) : ∃ b o, A = some ⟨b, o, none⟩ ∧ b < B ∧ w.cell? ⟨b, o + k, none⟩ = some (.int .i64 x) := by
  obtain ⟨b, o, hA, hb, hc⟩ := h.at_ hk
  exact ⟨b, o, hA, hb, by simpa using hc 0 _ rfl⟩

theorem ixf_hit {xs : List Int} {x : Int} {k : Nat} (hk : xs[k]? = some x) (hp : ∀ j, j < k → xs[j]? ≠ some x) : ixf xs x = k := by
  have hm : x ∈ xs := List.mem_of_getElem? hk
  unfold ixf
  rw [if_pos hm]
  congr 1
  have hkl := (List.getElem?_eq_some_iff.1 hk)
  obtain ⟨hl, he⟩ := hkl
  rw [List.findIdx_eq hl]
  refine ⟨by simp [he], fun j hj => ?_⟩
  have := hp j hj
  rw [List.getElem?_eq_getElem (by omega)] at this
  simpa using this
theorem ixf_miss {xs : List Int} {x : Int} (hp : ∀ j, j < xs.length → xs[j]? ≠ some x) : ixf xs x = -1 := by
  unfold ixf
  rw [if_neg]
  intro hm
  obtain ⟨j, hj, e⟩ := List.getElem_of_mem hm
  exact hp j hj (by rw [List.getElem?_eq_getElem hj, e])

set_option maxHeartbeats 1000000 in
theorem index_any (A : Option Addr) (n cp : Nat) (xs : List Int) (x : Int) (w : World) (hr : Row encI 1 w w.heap.size A xs) (hn : n = xs.length) (hl : xs.length ≤ 1000000) :
    Calls Tryz.prog 114 #[.slice A n cp, .int .i64 x] w fun e w' => e = .returned (.int .i64 (ixf xs x)) ∧ w' = w := by
  subst hn
  go_enter Tryz.func114, Tryz.ntmps114
  go_wp2
  go_loop [5, 8] (fun _ i => ∃ k : Nat, k ≤ xs.length ∧ i = .int .i64 k ∧ ∀ j, j < k → xs[j]? ≠ some x) (fun _ i => xs.length - (intOf i).toNat)
  case atStart => exact ⟨0, Nat.zero_le _, rfl, fun j hj => absurd hj (Nat.not_lt_zero _)⟩
  case round =>
    obtain ⟨k, hk, rfl, hp⟩ := hrel
    have HP := Lib.hid hp
    clear hp
    by_cases hlt : k < xs.length
    · have hg := List.getElem?_eq_getElem hlt
      obtain ⟨ba, o, rfl, _, c0⟩ := ints_at hr hg
      have HG := Lib.hid hg
      clear hg
      generalize xs[k] = y at c0 HG
      by_cases hy : x = y
      · subst hy
        have HX := Lib.hid (ixf_hit HG.out HP.out)
        go_wp2
        go_ret
        exact ⟨by rw [HX.out]; rfl, rfl⟩
      · have hyb : (x == y) = false := by simpa using hy
        go_wp2
        go_round
        case rel =>
          refine ⟨k + 1, by omega, by go_num, fun j hj => ?_⟩
          rcases Nat.lt_or_ge j k with h | h
          · exact HP.out j h
          · have : j = k := by omega
            subst this; rw [HG.out]; simpa using fun e : y = x => hy e.symm
        case measure => simp [intOf]; omega
    · have hkl : k = xs.length := by omega
      have HX := Lib.hid (ixf_miss (xs := xs) (x := x) (fun j hj => HP.out j (by omega)))
      clear hkl
      go_wp2
      go_ret
      exact ⟨by rw [HX.out]; rfl, rfl⟩

set_option maxRecDepth 100000 in
theorem contains_any (A : Option Addr) (n cp : Nat) (xs : List Int) (x : Int) (w : World) (hr : Row encI 1 w w.heap.size A xs) (hn : n = xs.length) (hl : xs.length ≤ 1000000) :
    Calls Tryz.prog 86 #[.slice A n cp, .int .i64 x] w fun e w' => e = .returned (.bool (decide (x ∈ xs))) ∧ w' = w := by
  subst hn
  by_cases hx : x ∈ xs
  · have h0 : 0 ≤ ixf xs x := by unfold ixf; rw [if_pos hx]; omega
    go_enter Tryz.func86, Tryz.ntmps86
    go_wp2_with (go_at_call 114; refine (index_any A _ cp xs x _ hr rfl hl).mono ?_; rintro e w' ⟨rfl, rfl⟩)
    go_ret
    exact ⟨by simp [hx], rfl⟩
  · have h0 : ixf xs x < 0 := by unfold ixf; rw [if_neg hx]; omega
    go_enter Tryz.func86, Tryz.ntmps86
    go_wp2_with (go_at_call 114; refine (index_any A _ cp xs x _ hr rfl hl).mono ?_; rintro e w' ⟨rfl, rfl⟩)
    go_ret
    exact ⟨by simp [hx, h0], rfl⟩

set_option maxHeartbeats 1000000 in
theorem iclone_any (A : Option Addr) (n c : Nat) (xs : List Int) (w : World) (hx : Row encI 1 w w.heap.size A xs) (hl : n = xs.length) (hn : xs.length ≤ 1000000) :
    Calls Tryz.prog 65 #[.slice A n c] w fun e w' => ∃ v, e = .returned v ∧ Own encI 1 3 w' w.heap.size v xs ∧ Below w.heap.size w w' := by
  subst hl
  have q : ∀ (w : World) (a : Option Addr) (n c n' c' : Nat), (binOp .eql 25 (.slice a n c) (.slice none n' c')).run Tryz.prog w = .ok (.bool a.isNone) w := fun w a n c n' c' => Lib.run_eql_slice_nil w _ _ a n c n' c' Tryz.underlying25
  rcases A with _ | a
  · have : xs = [] := by
      rcases hx with h | ⟨b, o, h, _⟩
      · exact h
      · cases h
    subst this
    go_enter Tryz.func65, Tryz.ntmps65
    go_wp2
    go_ret
    exact ⟨_, rfl, Own.nil, Below.refl _ _⟩
  · have hmade : Own encI 1 3 (w.alloc (.cells #[] 3)) w.heap.size (.slice (some ⟨w.heap.size, 0, none⟩) 0 0) [] := World.ownsRow_made w #[] 0 (Nat.le_refl _) (Nat.zero_le _) (by simp)
    have hx' : Row encI 1 (w.alloc (.cells #[] 3)) w.heap.size (some a) xs := hx.alloc (Nat.le_refl _) _
    go_enter Tryz.func65, Tryz.ntmps65
    go_wp2_with (at_builtin; refine wp_app _ encI 1 rfl _ _ 25 rfl w.heap.size 3 8 Tryz.underlying25 info3 (by omega) len_I one_I (.slice (some ⟨w.heap.size, 0, none⟩) 0 0) [] rfl hmade w.heap.size (some a) _ _ xs rfl rfl hx' (by simp; omega) (by simp; omega) (by simp) ?_; intro v1 w1 hown1 hg1 hat1 _)
    go_ret
    exact ⟨_, rfl, by simpa using hown1, ((Below.refl _ _).alloc (Nat.le_refl _) _).grown hg1 (by simp) (by intro k hk; simp [Value.ownBlock] at hk; omega)⟩
end Go.Proofs.YtocogcgnahbpkaaGreat
