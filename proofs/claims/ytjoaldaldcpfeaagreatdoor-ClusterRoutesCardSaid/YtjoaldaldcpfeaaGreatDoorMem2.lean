/-
  append onto a slice of the call's own at a step of a region that draws; blocks that are known whole; what stays but for some blocks.
-/
import Derived.Test.YtjoaldaldcpfeaaGreatDoorMem
import Derived.RegionTactic
namespace Go.Proofs.YtjoaldaldcpfeaaGreatDoor
open Go.RowKit

section
variable {P : Program} (w : World) {α : Type} (enc : α → List Value) (sz : Nat)

theorem run_app {t ty : TypeId} (base : Nat) (e : TypeId) (bytes : Nat) (ht : P.underlying t = some (.slice e)) (hi : ∃ i z, P.info? e = some i ∧ i.zero = some z ∧ i.size = sz ∧ i.bytes = bytes ∧ z.cells.size = sz) (hsz : 0 < sz)
    (hs : ∀ x, (enc x).length = sz) (h1 : ∀ x, ∀ u ∈ enc x, u.oneCell' = true)
    (v : Value) (xs : List α) (hown : Own enc sz e w base v xs)
    (B : Nat) (A : Option Addr) (c : Nat) (ys : List α) (hr : Row enc sz w B A ys)
    (hbytes : (xs.length + ys.length) * bytes ≤ 140737488355328) (h63 : xs.length + ys.length ≤ 140737488355328) (hbase : base ≤ w.heap.size) :
    ∃ v' w', (Builtin.append_ #[t, t] ty #[v, .slice A ys.length c]).run P w = .ok v' w' ∧ Own enc sz e w' base v' (xs ++ ys) ∧ w.grownBy w' v.ownBlock ∧ (v'.ownBlock = v.ownBlock ∨ v'.ownBlock = some w.heap.size) ∧ (v' = .slice none 0 0 ↔ v = .slice none 0 0 ∧ ys = []) := by
  obtain ⟨i, z, hi, hz, hsize, hby, hzs⟩ := hi
  by_cases hy : A = none
  · subst hy
    have : ys = [] := by
      rcases hr with h | ⟨b, o, h, _⟩
      · exact h
      · cases h
    subst this
    exact ⟨v, w, append_none w sz ht hi hown c, by simpa using hown, World.grownBy.refl w _, .inl rfl, by simp⟩
  · obtain ⟨ad, rfl⟩ := Option.ne_none_iff_exists'.1 hy
    have hcells : ∀ j u, (ys.flatMap enc)[j]? = some u → w.cell? (ad.add j) = some u := by
      intro j u hj
      obtain ⟨k, j', y, rfl, hj', hk, hu⟩ := flat_inv hs ys j u hj
      obtain ⟨b, o, e', _, hc⟩ := hr.at_ hk
      injection e' with e'
      subst e'
      rw [Addr.add_lit, ← Nat.add_assoc]
      exact hc j' u hu
    obtain ⟨v', w', hrun, h2, h3, h5, h4⟩ := run_append_own_at (P := P) w base t ty e i z sz bytes ht hi hz hsize hby hzs hsz v xs.length (xs.flatMap enc) hown ad ys.length c (ys.flatMap enc) (flat_len hs ys) hcells
      (by intro u hu; obtain ⟨y, _, hu⟩ := List.mem_flatMap.1 hu; exact h1 y u hu) (by unfold maxLen; omega) hbytes hbase
    refine ⟨v', w', hrun, ?_, h3, h4, h5.trans (by rw [List.length_eq_zero_iff])⟩
    unfold Own
    rw [List.length_append, List.flatMap_append]
    exact h2

theorem step_app {ops : Array Oper} {o : Oper} {a : Act} {K : Act → World → Prop} {Q : Exit → Act → World → Prop} {E : Prop} (hgd : o.guard = none) (s x : Operand) (t : TypeId)
    (ho : o.op = .call { callee := .builtin .append, args := #[s, x], argTypes := #[t, t] })
    (base : Nat) (e : TypeId) (bytes : Nat) (ht : P.underlying t = some (.slice e)) (hi : ∃ i z, P.info? e = some i ∧ i.zero = some z ∧ i.size = sz ∧ i.bytes = bytes ∧ z.cells.size = sz) (hsz : 0 < sz)
    (hs : ∀ x, (enc x).length = sz) (h1 : ∀ x, ∀ u ∈ enc x, u.oneCell' = true)
    (v : Value) (xs : List α) (hv : a.eval s = v) (hown : Own enc sz e w base v xs)
    (B : Nat) (A : Option Addr) (m c : Nat) (ys : List α) (hm : m = ys.length) (hx : a.eval x = .slice A m c) (hr : Row enc sz w B A ys)
    (hbytes : (xs.length + ys.length) * bytes ≤ 140737488355328) (h63 : xs.length + ys.length ≤ 140737488355328) (hbase : base ≤ w.heap.size)
    (h : ∀ v' w', Own enc sz e w' base v' (xs ++ ys) → w.grownBy w' v.ownBlock → (v'.ownBlock = v.ownBlock ∨ v'.ownBlock = some w.heap.size) → (v' = .slice none 0 0 ↔ v = .slice none 0 0 ∧ ys = []) → K (a.put o.dst v') w') :
    if Region.wanted o (yielded ops a.tmps) = true then Oper.wp P o a w K Q else E := by
  have hw : Region.wanted o (yielded ops a.tmps) = true := by simp [Region.wanted, hgd]
  rw [if_pos hw]
  subst hm
  obtain ⟨v', w', hrun, h2, h3, h4, h5⟩ := run_app (P := P) w enc sz (ty := o.type) base e bytes ht hi hsz hs h1 v xs hown B A c ys hr hbytes h63 hbase
  unfold Oper.wp execOp
  simp only [ho, resolve, invoke, builtin, Sem.run_bind, Sem.run_pure, Result.andThen_ok, List.map_toArray, List.map_cons, List.map_nil, hv, hx, hrun]
  exact h v' w' h2 h3 h4 h5
end
end Go.Proofs.YtjoaldaldcpfeaaGreatDoor
