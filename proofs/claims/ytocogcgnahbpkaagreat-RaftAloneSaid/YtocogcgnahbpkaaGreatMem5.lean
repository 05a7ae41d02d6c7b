/-
  A result that lies in a block; rows and entries of one's own as blocks of a set.
-/
import Derived.Test.YtocogcgnahbpkaaGreatN6
import Derived.Laws.ResultCell
import Derived.Laws.Rows
namespace Go.Proofs.YtocogcgnahbpkaaGreat
open Go.RowKit

theorem results_cell_tmp_row {P : Program} {fn : Func} {p u : Tmp} {ty : TypeId} (h : fn.results = #[.cell p ty, .tmp u]) (tmps : Array Value) (w : World) (g : Nat) (t : TypeId) (cs : Array Value) (fr : Nat × Nat) (d : TypeDesc) (x : Value)
    (hp : tmps.getD p undef = .pointer (some ⟨g, 0, none⟩)) (hx : tmps.getD u undef = x) (hg : w.heap[g]? = some (.cells cs t fr))
    (hu : P.underlying ty = some d) (hd : (match d with | .struct _ | .array _ _ => true | _ => false) = true) (hi : (P.info? ty).map (·.size) = some cs.size) :
    (results fn tmps).run P w = .ok (.tuple #[.agg cs, x]) w := by
  rw [results_cell_tmp h, hp, hx]
  simp [asAddr, Result.andThen, run_loadVar_row w g t ty cs fr d hg hu hd hi]

theorem Ents.cut {w : World} {B : Nat} {A : Option Addr} {ps : List (LE × List Int)} {k n c : Nat} (h : Ents w B A ps) (hk : k ≤ n) (hn : n = ps.length) (hc : n ≤ c) : Ents w B (if c = k then A else A.map (·.add (k * 3))) (ps.drop k) := by
  have := h.row.cut hk hc
  rw [show List.take n (ps.map (·.1)) = ps.map (·.1) from List.take_of_length_le (by simp [hn]), ← List.map_drop] at this
  exact ⟨this, fun p hp => h.each p (List.mem_of_mem_drop hp)⟩

theorem Own.rowS {α : Type} {enc : α → List Value} {sz : Nat} {e : TypeId} {w : World} {base : Nat} {A : Option Addr} {n c : Nat} {xs : List α} (hs : ∀ x, (enc x).length = sz) (h : Own enc sz e w base (.slice A n c) xs) : RowS enc sz w (fun i => base ≤ i ∧ i < w.heap.size) A xs := by
  rcases h.2 with ⟨_, h⟩ | ⟨g, cap, cur, hv, hb, hg, h1, h2, h3, h4⟩
  · exact .inl (List.eq_nil_of_length_eq_zero h)
  · have hr := Own.row (A := A) (c := c) hs (by have := (Own.cap h).1; subst this; exact h)
    injection hv with hA _ _
    subst hA
    rcases hr with h0 | ⟨b, o, e, _, hc⟩
    · exact .inl h0
    · injection e with e; injection e with e1 e2; subst e1; subst e2
      exact .inr ⟨_, _, rfl, ⟨hb, block_lt hg⟩, hc⟩
theorem OEnts.entsS {w : World} {base : Nat} {A : Option Addr} {n c : Nat} {qs : List (LE × List Int)} (h : OEnts w base (.slice A n c) qs) : EntsS w (fun i => base ≤ i ∧ i < w.heap.size) A qs ∧ n = qs.length ∧ n ≤ c := by
  have hc := Own.cap h.own
  simp only [List.length_map] at hc
  exact ⟨⟨h.own.rowS len_LE, fun p hp => ⟨(h.each p hp).1.rowS len_B, (Own.cap (h.each p hp).1).1, (h.each p hp).2.2⟩⟩, hc⟩

end Go.Proofs.YtocogcgnahbpkaaGreat
