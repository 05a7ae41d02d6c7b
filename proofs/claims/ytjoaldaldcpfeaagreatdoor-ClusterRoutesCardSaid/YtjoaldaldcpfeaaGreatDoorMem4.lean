/-
  'for k, v := range m' over a map known as a list of pairs: what is left, in whatever order it comes.
-/
import Derived.Test.YtjoaldaldcpfeaaGreatDoorMem3
namespace Go.Proofs.YtjoaldaldcpfeaaGreatDoor
open Go.RowKit

structure Ranging (P : Program) (k : TypeId) {α β : Type} (kenc : α → Value) (venc : β → Value) (w : World) (b r : Nat) (left : List (α × β)) : Prop where
  ex : ∃ es clock since seen c0, w.heap[b]? = some (.map es clock) ∧ MapKept.Stamped es clock ∧ w.heap[r]? = some (.mapIter (some b) since seen c0) ∧ (∀ x ∈ es.toList, x.born < since) ∧ since ≤ c0 ∧ since ≤ clock ∧
    ((leftOf es seen).toList.map (fun e => (e.key, e.val))).Perm (left.map fun p => (kenc p.1, venc p.2))

section
variable {P : Program} {k e t : TypeId} {α β : Type} {kenc : α → Value} {venc : β → Value} {w w' : World} {b r : Nat} {l left : List (α × β)}
theorem Ranging.keep (h : Ranging P k kenc venc w b r left) (hb : w'.heap[b]? = w.heap[b]?) (hr : w'.heap[r]? = w.heap[r]?) : Ranging P k kenc venc w' b r left := by
  obtain ⟨es, c, s, sn, c0, h1, h2, h3, h4⟩ := h.ex
  exact ⟨es, c, s, sn, c0, hb.trans h1, h2, hr.trans h3, h4⟩
theorem Ranging.lt (h : Ranging P k kenc venc w b r left) : r < w.heap.size := by
  obtain ⟨es, c, s, sn, c0, h1, h2, h3, h4⟩ := h.ex
  exact block_lt h3

theorem Ranging.left_eq (h : Ranging P k kenc venc w b r left) : w.rangeLeft b r = left.length := by
  obtain ⟨es, c, s, sn, c0, h1, h2, h3, _, _, _, h4⟩ := h.ex
  simp only [World.rangeLeft, h1, h3]
  simpa using h4.length_eq

theorem MapG.range (h : MapG P k kenc venc w b l) (ht : P.underlying t = some (.map k e)) :
    ∃ w', (Instr.range t (.map (some b))).run P w = .ok (.pointer (some ⟨w.heap.size, 0, none⟩)) w' ∧ Ranging P k kenc venc w' b w.heap.size l ∧ Below w.heap.size w w' ∧ w'.heap.size = w.heap.size + 1 := by
  obtain ⟨es, clock, hb, hs, hk, hl⟩ := h.ex
  refine ⟨_, run_range_map w t k e b es clock ht hb, ⟨es, clock, clock, #[], clock, block_alloc hb _, hs, World.alloc_at w _, hs.1, Nat.le_refl _, Nat.le_refl _, ?_⟩, (Below.refl _ _).alloc (Nat.le_refl _) _, by simp⟩
  rw [show leftOf es #[] = es by simp [leftOf], hl]

theorem perm_filter_born {l : List MapEntry} {e : MapEntry} (hn : (l.map (·.born)).Nodup) (he : e ∈ l) : l.Perm (e :: l.filter fun x => x.born ≠ e.born) := by
  induction l with
  | nil => simp at he
  | cons a l ih =>
    simp only [List.map_cons, List.nodup_cons] at hn
    rcases List.mem_cons.1 he with rfl | he
    · rw [List.filter_cons_of_neg (by simp)]
      have : l.filter (fun x => x.born ≠ e.born) = l := by
        rw [List.filter_eq_self]
        intro x hx
        simp only [ne_eq, decide_not, Bool.not_eq_true', decide_eq_false_iff_not]
        exact fun e1 => hn.1 (by rw [← e1]; exact List.mem_map_of_mem hx)
      rw [this]
    · have hne : a.born ≠ e.born := fun e1 => hn.1 (by rw [e1]; exact List.mem_map_of_mem he)
      rw [List.filter_cons_of_pos (by simpa using hne)]
      exact ((ih hn.2 he).cons a).trans (List.Perm.swap ..)

theorem map_pairs_perm {l1 : List MapEntry} {a : MapEntry} {l2 : List MapEntry} (hp : l1.Perm (a :: l2)) (hl : (l1.map (fun e => (e.key, e.val))).Perm (left.map fun p => (kenc p.1, venc p.2))) :
    ∃ p left', left.Perm (p :: left') ∧ a.key = kenc p.1 ∧ a.val = venc p.2 ∧ (l2.map (fun e => (e.key, e.val))).Perm (left'.map fun p => (kenc p.1, venc p.2)) := by
  have h2 := hl.symm.trans (hp.map (fun e : MapEntry => (e.key, e.val)))
  rw [List.map_cons] at h2
  have hm : (a.key, a.val) ∈ left.map fun p => (kenc p.1, venc p.2) := h2.mem_iff.2 (by simp)
  obtain ⟨p, hpm, he⟩ := List.mem_map.1 hm
  simp only [Prod.mk.injEq] at he
  obtain ⟨s, t, rfl⟩ := List.append_of_mem hpm
  refine ⟨p, s ++ t, List.perm_middle, he.1.symm, he.2.symm, ?_⟩
  have h3 := ((List.perm_middle (a := p) (l₁ := s) (l₂ := t)).map fun p => (kenc p.1, venc p.2)).symm.trans h2
  rw [List.map_cons, he.1, he.2] at h3
  exact h3.cons_inv.symm

theorem Ranging.next (h : Ranging P k kenc venc w b r left) (ty : TypeId) :
    (left = [] ∧ (Instr.next (.pointer (some ⟨r, 0, none⟩)) false ty).run P w = .ok (.tuple #[.bool false]) w) ∨
    ∃ p left' w', left.Perm (p :: left') ∧ (Instr.next (.pointer (some ⟨r, 0, none⟩)) false ty).run P w = .ok (.tuple #[.bool true, kenc p.1, venc p.2]) w' ∧ Ranging P k kenc venc w' b r left' ∧ w.grownBy w' (some r) ∧ w'.heap.size = w.heap.size ∧
      (Instr.entry (.pointer (some ⟨r, 0, none⟩))).run P w' = .ok (.tuple #[kenc p.1, venc p.2]) w' := by
  obtain ⟨es, clock, since, seen, c0, hb, hs, hr, hold, hsc, hsk, hl⟩ := h.ex
  have hne : r ≠ b := by
    intro e
    rw [e, hb] at hr
    cases hr
  rcases run_next_at (P := P) w ty r b since c0 seen es clock hr hb hold hsc with ⟨h0, hrun⟩ | ⟨e, he, w1, hal, hrun⟩
  · refine .inl ⟨?_, hrun⟩
    have : leftOf es seen = #[] := Array.eq_empty_of_size_eq_zero h0
    rw [this] at hl
    simpa using hl
  · obtain ⟨hem, hes⟩ := mem_left he
    have hnd : ((leftOf es seen).toList.map (·.born)).Nodup := by
      unfold leftOf
      rw [Array.toList_filter]
      exact ((List.filter_sublist (l := es.toList)).map _).nodup hs.2.1
    have hp := perm_filter_born hnd he
    obtain ⟨p, left', hpm, hk, hv, hl'⟩ := map_pairs_perm hp hl
    have hr1 : w1.heap[r]? = some (.mapIter (some b) since seen c0) := by rcases hal with rfl | rfl <;> exact hr
    have hb1 : w1.heap[b]? = some (.map es clock) := by rcases hal with rfl | rfl <;> exact hb
    have hat : (ChangeMaps.setBlock w1 r (.mapIter (some b) since (seen.push e.born) clock)).heap[r]? = some (.mapIter (some b) since (seen.push e.born) clock) := by
      simp only [ChangeMaps.setBlock]; rw [Array.getElem?_setIfInBounds_self_of_lt (block_lt hr1)]
    have hot : ∀ i, i ≠ r → (ChangeMaps.setBlock w1 r (.mapIter (some b) since (seen.push e.born) clock)).heap[i]? = w1.heap[i]? := fun i hi => by
      simp only [ChangeMaps.setBlock]; rw [Array.getElem?_setIfInBounds_ne (fun e => hi e.symm)]
    have hb2 : (ChangeMaps.setBlock w1 r (.mapIter (some b) since (seen.push e.born) clock)).heap[b]? = some (.map es clock) := (hot b (fun e => hne e.symm)).trans hb1
    have hsz : (ChangeMaps.setBlock w1 r (.mapIter (some b) since (seen.push e.born) clock)).heap.size = w.heap.size := by rcases hal with rfl | rfl <;> simp [ChangeMaps.setBlock]
    refine .inr ⟨p, left', _, hpm, by rw [hk, hv] at hrun; exact hrun, ⟨es, clock, since, _, clock, hb2, hs, hat, hold, hsk, hsk, ?_⟩, ⟨by rcases hal with rfl | rfl <;> rfl, by rcases hal with rfl | rfl <;> rfl, by rcases hal with rfl | rfl <;> rfl, by omega, fun i _ hi => ?_⟩, hsz, ?_⟩
    · refine List.Perm.trans (List.Perm.of_eq ?_) hl'
      congr 1
      unfold leftOf
      rw [Array.toList_filter, Array.toList_filter, List.filter_filter]
      congr 1
      funext x
      rw [contains_push]
      by_cases hx : x.born = e.born <;> simp [hx]
    · rw [hot i (fun e => hi (by rw [e]))]
      rcases hal with rfl | rfl <;> rfl
    · have := run_entry_at (P := P) _ r b since seen es clock e hat hb2 hem hs.2.1
      rw [hk, hv] at this
      exact this
end
end Go.Proofs.YtjoaldaldcpfeaaGreatDoor
namespace Go.Proofs.YtjoaldaldcpfeaaGreatDoor
open Go.RowKit
section
variable {P : Program} {α β : Type} {kenc : α → Value} {venc : β → Value} {ops : Array Oper} {rest : List Oper} {o : Oper} {a : Act} {Q : Exit → Act → World → Prop} (w : World)

theorem wp_range (hg : o.guard = none) (m : Operand) (t : TypeId) (hop : o.op = Op.range t m) (k e : TypeId) (ht : P.underlying t = some (.map k e)) (b : Nat) (l : List (α × β)) (hm : a.eval m = .map (some b)) (h : MapG P k kenc venc w b l)
    (hK : ∀ w', Ranging P k kenc venc w' b w.heap.size l → Below w.heap.size w w' → w'.heap.size = w.heap.size + 1 → wpList P ops Q rest (a.put o.dst (.pointer (some ⟨w.heap.size, 0, none⟩))) w') : wpList P ops Q (o :: rest) a w := by
  refine wpList_plain hg fun K' hK' => ?_
  obtain ⟨w', hrun, r1, r2, r3⟩ := h.range ht
  unfold Oper.wp
  simp [execOp, hop, hm, hrun, Result.andThen]
  exact hK' _ _ (hK w' r1 r2 r3)

theorem wp_next (hg : o.guard = none) (it : Operand) (hop : o.op = Op.next it false) (k : TypeId) (b r : Nat) (left : List (α × β)) (hit : a.eval it = .pointer (some ⟨r, 0, none⟩)) (h : Ranging P k kenc venc w b r left)
    (hDone : left = [] → wpList P ops Q rest (a.put o.dst (.tuple #[.bool false])) w)
    (hMore : ∀ p left' w', left.Perm (p :: left') → Ranging P k kenc venc w' b r left' → w.grownBy w' (some r) → w'.heap.size = w.heap.size → (Instr.entry (.pointer (some ⟨r, 0, none⟩))).run P w' = .ok (.tuple #[kenc p.1, venc p.2]) w' →
      wpList P ops Q rest (a.put o.dst (.tuple #[.bool true, kenc p.1, venc p.2])) w') : wpList P ops Q (o :: rest) a w := by
  refine wpList_plain hg fun K' hK' => ?_
  unfold Oper.wp
  rcases h.next o.type with ⟨h0, hrun⟩ | ⟨p, left', w', hp, hrun, hr, hg, hs, hen⟩
  · simp [execOp, hop, hit, hrun, Result.andThen]
    exact hK' _ _ (hDone h0)
  · simp [execOp, hop, hit, hrun, Result.andThen]
    exact hK' _ _ (hMore p left' w' hp hr hg hs hen)

theorem wp_mput [DecidableEq α] {ok : α → Prop} {k e t : TypeId} (hg : o.guard = none) (m x v : Operand) (hop : o.op = .mapUpdate t m x v) (K : KeyEnc P k kenc ok) (ht : P.underlying t = some (.map k e)) (b : Nat) (l : List (α × β)) (hm : a.eval m = .map (some b)) (h : MapG P k kenc venc w b l)
    (z : α) (hz : ok z) (hx : a.eval x = kenc z) (y : β) (hv : a.eval v = venc y)
    (hK : ∀ w', MapG P k kenc venc w' b (kput l z y) → w.grownBy w' (some b) → w'.heap.size = w.heap.size → wpList P ops Q rest (a.put o.dst undef) w') : wpList P ops Q (o :: rest) a w := by
  refine wpList_plain hg fun K' hK' => ?_
  obtain ⟨w', hrun, r1, r2, r3⟩ := h.put K ht z hz y
  unfold Oper.wp
  simp [execOp, hop, hm, hx, hv, hrun, Result.andThen]
  exact hK' _ _ (hK w' r1 r2 r3)
theorem wp_minsert [DecidableEq α] {ok : α → Prop} {k e t : TypeId} (hg : o.guard = none) (m x v : Operand) (hop : o.op = .insert t m x v) (K : KeyEnc P k kenc ok) (ht : P.underlying t = some (.map k e)) (b : Nat) (l : List (α × β)) (hm : a.eval m = .map (some b)) (h : MapG P k kenc venc w b l)
    (z : α) (hz : ok z) (hx : a.eval x = kenc z) (y : β) (hv : a.eval v = venc y)
    (hK : ∀ w', MapG P k kenc venc w' b (kput l z y) → w.grownBy w' (some b) → w'.heap.size = w.heap.size → wpList P ops Q rest (a.put o.dst undef) w') : wpList P ops Q (o :: rest) a w := by
  refine wpList_plain hg fun K' hK' => ?_
  obtain ⟨w', hrun, r1, r2, r3⟩ := h.put K ht z hz y
  unfold Oper.wp
  simp [execOp, hop, hm, hx, hv, hrun, Result.andThen]
  exact hK' _ _ (hK w' r1 r2 r3)
end
end Go.Proofs.YtjoaldaldcpfeaaGreatDoor
