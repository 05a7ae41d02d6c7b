/-
  raft.Node: end, term, majority, rest, turned, stuck.
-/
import Derived.Test.YtocogcgnahbpkaaGreatN0
import Derived.BigRegion
namespace Go.Proofs.YtocogcgnahbpkaaGreat
open Go.RowKit

theorem tmod_lo (a : Int) {m : Int} (hm : 1 ≤ m) : -m < a.tmod m := by
  have := Int.tmod_def a m
  rcases Int.lt_or_le a 0 with h | h
  · have h1 : (-a).tmod m < m := Int.tmod_lt_of_pos _ (by omega)
    rw [Int.neg_tmod] at h1; omega
  · have := Int.tmod_nonneg m h; omega
theorem tmod_hi (a : Int) {m : Int} (hm : 1 ≤ m) : a.tmod m < m := Int.tmod_lt_of_pos _ (by omega)

set_option maxRecDepth 100000 in
set_option maxHeartbeats 1000000 in
theorem end_any (b : Nat) (s : NS) (c : NC) (w : World) (h : w.heap[b]? = some (.cells (ncells s c) 126 (0, 0))) (h0 : -4611686018427387904 ≤ s.snap) (h1 : s.snap ≤ 4611686018427387904) (h2 : c.ln ≤ 4611686018427387) :
    Calls Tryz.prog 57 #[.pointer (some ⟨b, 0, none⟩)] w fun e w' => e = .returned (.int .i64 (s.snap + c.ln)) ∧ ∃ n, w' = w.drewN n := by
  have c9 := nc9 h
  have c8 := nc8 h
  go_enter Tryz.func57, Tryz.ntmps57
  go_wp2
  go_quiet (fail)
  go_wp2
  go_ret
  exact ⟨rfl, _, rfl⟩

def NS.rest (s : NS) : NS := { s with elapsed := 0, timeout := s.least + s.draw % (s.most - s.least + 1) }

theorem draw_mod (a m : Int) : a.tmod m % m = a % m := by
  rw [Int.tmod_def]; exact Int.sub_mul_emod_self_left ..
theorem emod_lo (a : Int) {m : Int} (hm : 1 ≤ m) : 0 ≤ a % m := Int.emod_nonneg _ (by omega)
theorem emod_hi (a : Int) {m : Int} (hm : 1 ≤ m) : a % m < m := Int.emod_lt_of_pos _ (by omega)

set_option maxRecDepth 100000 in
set_option maxHeartbeats 1000000 in
theorem rest_any (b : Nat) (s : NS) (c : NC) (w : World) (h : w.heap[b]? = some (.cells (ncells s c) 126 (0, 0))) (h0 : 0 ≤ s.least) (h1 : s.least ≤ s.most) (h2 : s.most ≤ 1000) :
    Calls Tryz.prog 66 #[.pointer (some ⟨b, 0, none⟩)] w fun e w' => e = .returned (.tuple #[]) ∧ Chg (· = b) w w' ∧ w'.heap[b]? = some (.cells (ncells s.rest c) 126 (0, 0)) := by
  have c2 := nc2 h
  have c3 := nc3 h
  have c23 := nc23 h
  have c14 := nc14 h
  have c15 := nc15 h
  have hf := frozen_block h
  have hm : 1 ≤ s.most - s.least + 1 := by omega
  go_enter Tryz.func66, Tryz.ntmps66
  go_wp2
  go_quiet (fail)
  have t1 := tmod_lo s.draw hm
  have t2 := tmod_hi s.draw hm
  have t3 := emod_lo (s.draw.tmod (s.most - s.least + 1)) hm
  have t4 := emod_hi (s.draw.tmod (s.most - s.least + 1)) hm
  have HR := Lib.hid (draw_mod s.draw (s.most - s.least + 1))
  go_wp2
  go_region
  go_end0
  have hb := block_setCell (o := 15) (block_setCell (o := 14) (w := w.drewN (nq + 1)) h (.int .i64 0)) (.int .i64 (s.least + s.draw.tmod (s.most - s.least + 1) % (s.most - s.least + 1)))
  refine ⟨rfl, ?_, ?_⟩
  · exact Chg.setCell (F := (· = b)) (Chg.setCell (F := (· = b)) (Chg.refl.drewN _) (.inl rfl) _) (.inl rfl) _
  · rw [hb, HR.out]; rfl

def lterm (s : NS) (l : List E) (i : Int) : Int := if i = s.snap then s.snapTerm else ((l[(i - s.snap - 1).toNat]?).map (·.term)).getD 0

set_option maxRecDepth 100000 in
set_option maxHeartbeats 1000000 in
theorem term_any (b : Nat) (s : NS) (c : NC) (i : Int) (F G : Nat → Prop) (w : World) (h : NdAt w F G b s c) (h0 : 0 ≤ s.snap) (h1 : s.snap ≤ 4611686018427387904) (hi0 : s.snap ≤ i) (hi : i ≤ s.snap + c.log.length) (hi2 : i ≤ 4611686018427387904) :
    Calls Tryz.prog 107 #[.pointer (some ⟨b, 0, none⟩), .int .i64 i] w fun e w' => e = .returned (.int .i64 (lterm s (c.log.map con) i)) ∧ ∃ n, w' = w.drewN n := by
  have hb := h.blk
  have c9 := nc9 hb
  have c10 := nc10 hb
  have c8 := nc8 hb
  by_cases hz : i = s.snap
  · subst hz
    go_enter Tryz.func107, Tryz.ntmps107
    go_wp2
    go_ret
    exact ⟨by simp [lterm], 0, rfl⟩
  · have hzb : (i == s.snap) = false := by simpa using hz
    obtain ⟨he, hl, hlc⟩ := h.rest.log.ents
    obtain ⟨k, hik⟩ : ∃ k : Nat, i = s.snap + 1 + k := ⟨(i - s.snap - 1).toNat, by omega⟩
    have hk : k < c.log.length := by omega
    have hpk := List.getElem?_eq_getElem hk
    obtain ⟨ba, o, hA, hba, d0, d1, d2⟩ := ents_at he hpk
    have HE := Lib.hid (show lterm s (c.log.map con) i = (c.log[k]).1.term by
      unfold lterm; rw [if_neg hz, List.getElem?_map, show (i - s.snap - 1).toNat = k by omega, hpk]; rfl)
    rw [hA] at c8
    have W1 : IntKind.i64.wrap (i - s.snap) = i - s.snap := IntWalk.i64_in _ (by omega)
    have W2 : IntKind.i64.wrap (i - s.snap - 1) = (k : Int) := by rw [IntWalk.i64_in _ (by omega)]; omega
    clear hpk hA hz hik
    go_enter Tryz.func107, Tryz.ntmps107
    go_wp2
    go_quiet (fail)
    clear W1 W2
    go_wp2
    go_ret
    exact ⟨by rw [HE.out]; rfl, _, rfl⟩

theorem majority_any (b : Nat) (s : NS) (c : NC) (k : Int) (w : World) (h : w.heap[b]? = some (.cells (ncells s c) 126 (0, 0))) (h0 : 0 ≤ k) (h1 : k ≤ 1000000) :
    Calls Tryz.prog 96 #[.pointer (some ⟨b, 0, none⟩), .int .i64 k] w fun e w' => e = .returned (.bool (decide (c.pn < 2 * k))) ∧ w' = w := by
  have c1 := nc1 h
  go_enter Tryz.func96, Tryz.ntmps96
  go_wp2
  go_ret
  exact ⟨by simp, rfl⟩

theorem within_any (n lo hi : Int) (w : World) : Calls Tryz.prog 55 #[.int .i64 n, .int .i64 lo, .int .i64 hi] w fun e w' => e = .returned (.bool (decide (lo ≤ n ∧ n ≤ hi))) ∧ w' = w := by
  by_cases h1 : lo ≤ n
  · by_cases h2 : n ≤ hi
    · go_enter Tryz.func55, Tryz.ntmps55
      go_wp2
      go_ret
      exact ⟨by simp [h1, h2], rfl⟩
    · go_enter Tryz.func55, Tryz.ntmps55
      go_wp2
      go_ret
      exact ⟨by simp [h2], rfl⟩
  · go_enter Tryz.func55, Tryz.ntmps55
    go_wp2
    go_ret
    exact ⟨by congr; simp; omega, rfl⟩

theorem num_any (n : Int) (w : World) : Calls Tryz.prog 33 #[.int .i64 n] w fun e w' => e = .returned (.int .i64 n) ∧ w' = w := by
  go_enter Tryz.func33, Tryz.ntmps33
  go_wp2
  go_ret
  exact ⟨rfl, rfl⟩

def NS.turned (s : NS) (i : Int) : NS := if s.from_ = 0 ∨ i < s.from_ then { s with from_ := i } else s

set_option maxRecDepth 100000 in
set_option maxHeartbeats 1000000 in
theorem turned_any (b : Nat) (s : NS) (c : NC) (i : Int) (w : World) (h : w.heap[b]? = some (.cells (ncells s c) 126 (0, 0))) :
    Calls Tryz.prog 148 #[.pointer (some ⟨b, 0, none⟩), .int .i64 i] w fun e w' => e = .returned (.tuple #[]) ∧ Chg (· = b) w w' ∧ w'.heap[b]? = some (.cells (ncells (s.turned i) c) 126 (0, 0)) := by
  have c26 := nc26 h
  have hf := frozen_block h
  have hb := block_setCell (o := 26) h (.int .i64 i)
  by_cases h1 : s.from_ = 0
  · have h1b : (s.from_ == 0) = true := by simpa using h1
    have HT := Lib.hid (show s.turned i = { s with from_ := i } by simp [NS.turned, h1])
    clear h1
    go_enter Tryz.func148, Tryz.ntmps148
    go_wp2
    go_end0
    exact ⟨rfl, Chg.setCell (F := (· = b)) Chg.refl (.inl rfl) _, by rw [HT.out]; exact hb⟩
  · have h1b : (s.from_ == 0) = false := by simpa using h1
    by_cases h2 : i < s.from_
    · have HT := Lib.hid (show s.turned i = { s with from_ := i } by simp [NS.turned, h2])
      go_enter Tryz.func148, Tryz.ntmps148
      go_wp2
      go_end0
      exact ⟨rfl, Chg.setCell (F := (· = b)) Chg.refl (.inl rfl) _, by rw [HT.out]; exact hb⟩
    · have HT := Lib.hid (show s.turned i = s by simp [NS.turned, h1, h2])
      go_enter Tryz.func148, Tryz.ntmps148
      go_wp2
      go_end0
      exact ⟨rfl, Chg.refl, by rw [HT.out]; exact h⟩
end Go.Proofs.YtocogcgnahbpkaaGreat
