/-
  cluster.New: rows of the call's own; where a configuration may not be.
-/
import Derived.Test.YtjoaldaldcpfeaaGreatDoorK3
namespace Go.Proofs.YtjoaldaldcpfeaaGreatDoor
open Go.RowKit

theorem own_typed {α : Type} {enc : α → List Value} {sz : Nat} {e : TypeId} {w : World} {base : Nat} {v : Value} {xs : List α} (h : Own enc sz e w base v xs) : ∀ k, v.ownBlock = some k → ∃ cur : Array Value, w.heap[k]? = some (.cells cur e (0, 0)) := by
  intro k hk
  rcases h.2 with ⟨rfl, _⟩ | ⟨g, cap, cur, rfl, _, hg, _⟩
  · simp [Value.ownBlock] at hk
  · simp [Value.ownBlock] at hk
    subst hk
    exact ⟨_, hg⟩
theorem own_ne {α β : Type} {enc : α → List Value} {enc' : β → List Value} {sz sz' : Nat} {e e' : TypeId} {w : World} {base base' : Nat} {v v' : Value} {xs : List α} {ys : List β} (h : Own enc sz e w base v xs) (h' : Own enc' sz' e' w base' v' ys) (he : e ≠ e') : v.ownBlock = none ∨ v.ownBlock ≠ v'.ownBlock := by
  rcases hb : v.ownBlock with _ | k
  · exact .inl rfl
  · right
    intro e2
    obtain ⟨c1, h1⟩ := own_typed h k hb
    obtain ⟨c2, h2⟩ := own_typed h' k e2.symm
    have := h1.symm.trans h2
    simp only [Option.some.injEq, Obj.cells.injEq] at this
    exact he this.2.1

/-- Rows of bytes of the call's own. -/
structure ORows (w : World) (base : Nat) (v : Value) (ps : List (BR × List Int)) : Prop where
  own : Own encBR 1 48 w base v (ps.map (·.1))
  each : ∀ p ∈ ps, Own encB 1 5 w base (.slice p.1.A p.2.length p.1.c) p.2 ∧ p.1.n = p.2.length ∧ p.2.length ≤ 140737488351232
theorem ORows.nil {w : World} {base : Nat} : ORows w base (.slice none 0 0) [] := ⟨Own.nil, by simp⟩
theorem ORows.below {w w' : World} {base B : Nat} {v : Value} {ps : List (BR × List Int)} (h : ORows w base v ps) (hb : Below B w w') (hB : w.heap.size ≤ B) : ORows w' base v ps :=
  ⟨h.own.below hb hB, fun q hq => ⟨(h.each q hq).1.below hb hB, (h.each q hq).2⟩⟩
theorem ORows.alloc {w : World} {base : Nat} {v : Value} {ps : List (BR × List Int)} (h : ORows w base v ps) (o : Obj) : ORows (w.alloc o) base v ps :=
  ⟨h.own.alloc o, fun q hq => ⟨(h.each q hq).1.alloc o, (h.each q hq).2⟩⟩
theorem ORows.rows {w : World} {base c n : Nat} {A : Option Addr} {ps : List (BR × List Int)} (h : ORows w base (.slice A n c) ps) : Rows2 w w.heap.size A ps := by
  have hl := (Own.cap h.own).1
  subst hl
  exact ⟨h.own.row len_BR, fun q hq => ⟨(h.each q hq).1.row len_B, (h.each q hq).2⟩⟩
/-- A cell of another type's block is stored. -/
theorem ORows.stored {w : World} {base x o : Nat} {v u : Value} {arr : Array Value} {t : TypeId} {ps : List (BR × List Int)} (h : ORows w base v ps) (hx : w.heap[x]? = some (.cells arr t (0, 0))) (h48 : t ≠ 48) (h5 : t ≠ 5) : ORows (w.setCell ⟨x, o, none⟩ u) base v ps := by
  have hg : w.grownBy (w.setCell ⟨x, o, none⟩ u) (some x) := ⟨rfl, rfl, rfl, by simp [World.setCell], fun i hi hn => Below.heap_setCell _ _ _ _ (fun e => hn (by rw [e]))⟩
  have ne : ∀ {α : Type} {enc : α → List Value} {sz : Nat} {e : TypeId} {v : Value} {xs : List α}, Own enc sz e w base v xs → t ≠ e → v.ownBlock = none ∨ v.ownBlock ≠ some x := by
    intro α enc sz e v xs ho hne
    rcases hb : v.ownBlock with _ | k
    · exact .inl rfl
    · right
      intro e2
      injection e2 with e2
      subst e2
      obtain ⟨c1, h1⟩ := own_typed ho k hb
      have := hx.symm.trans h1
      simp only [Option.some.injEq, Obj.cells.injEq] at this
      exact hne this.2.1
  exact ⟨h.own.kept hg (ne h.own h48), fun q hq => ⟨(h.each q hq).1.kept hg (ne (h.each q hq).1 h5), (h.each q hq).2⟩⟩
/-- One row more. -/
theorem ORows.snoc {w w1 : World} {base : Nat} {v v1 : Value} {ps : List (BR × List Int)} {br : BR} {xs : List Int} (h : ORows w base v ps) (hb : Own encB 1 5 w base (.slice br.A xs.length br.c) xs) (hn : br.n = xs.length) (hl : xs.length ≤ 140737488351232)
    (ho : Own encBR 1 48 w1 base v1 (ps.map (·.1) ++ [br])) (hg : w.grownBy w1 v.ownBlock) : ORows w1 base v1 (ps ++ [(br, xs)]) := by
  refine ⟨by rw [List.map_append]; exact ho, fun q hq => ?_⟩
  rcases List.mem_append.1 hq with hq | hq
  · exact ⟨(h.each q hq).1.kept hg (own_ne (h.each q hq).1 h.own (by decide)), (h.each q hq).2⟩
  · obtain rfl : q = (br, xs) := by simpa using hq
    exact ⟨hb.kept hg (own_ne hb h.own (by decide)), hn, hl⟩

set_option maxRecDepth 100000 in
set_option maxHeartbeats 4000000 in
theorem new_cno (c : CF) (fs : List FM) (ps : List (BR × List Int)) (w : World) (h : CFAt w c fs ps) (hv : checkV c fs (ps.map (·.2)) ≠ 0) :
    Calls Tryz.prog 7 #[.agg c.cells] w fun e w' => e = .returned (.tuple #[.pointer none, .int .i64 (checkV c fs (ps.map (·.2)))]) ∧ Below w.heap.size w w' := by
  have hb := below_alloc1 w (.cells c.cells 36)
  have HX := Lib.hid (World.alloc_at w (.cells c.cells 36))
  have HB := Lib.hid hb
  have HC := Lib.hid (h.below hb)
  have hv2 : (checkV c fs (ps.map (·.2)) != 0) = true := by rw [bne_iff_ne]; exact hv
  clear h hb hv
  have eCF : c.cells = #[.int .i64 c.nodes, .int .i64 c.disk, .slice c.fA c.fn c.fc, .slice c.sA c.sn c.sc, .int .i64 c.r.id, .slice c.r.pA c.r.pn c.r.pc, .int .i64 c.r.le, .int .i64 c.r.mo, .int .i64 c.r.be, .int .i64 c.r.ba, .int .i64 c.r.blk, .int .i64 c.r.bits, .int .i64 c.r.mem, .int .i64 c.r.stall, .int .i64 c.r.wi, .int .i64 c.r.ra, .int .i64 c.r.pm, .int .i64 c.r.seg] := rfl
  rw [eCF]
  go_enter Tryz.func7, Tryz.ntmps7
  rw [← eCF]
  go_upto_region 1 with (fail)
  rw [← eCF]
  clear eCF
  generalize w.alloc (.cells c.cells 36) = W at HX HB HC ⊢
  obtain ⟨x, hx⟩ : ∃ x, x = w.heap.size := ⟨_, rfl⟩
  rw [← hx] at HX ⊢
  clear hx
  go_wp2_with (refine wpList_load_row rfl 36 (.tmp 1) rfl x rfl 36 c.cells (0, 0) _ HX.out Tryz.underlying36 rfl (by kernel_rfl) ?_)
  refine (check_any c fs ps W HC.out).mono ?_
  rintro e w2 ⟨rfl, hb2⟩
  have HB2 := Lib.hid (HB.out.trans (hb2.mono HB.out.size))
  clear HX HB HC hb2
  go_wp2_with (fail)
  go_ret2
  exact ⟨rfl, HB2.out⟩
end Go.Proofs.YtjoaldaldcpfeaaGreatDoor
