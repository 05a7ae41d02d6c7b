/-
  Entries of the call's own; raft.copied.
-/
import Derived.Test.YtocogcgnahbpkaaGreatA1
namespace Go.Proofs.YtocogcgnahbpkaaGreat
open Go.RowKit

/-- Entries that the call made: the row and each one's bytes, none of these in the row's own block. -/
structure OEnts (w : World) (base : Nat) (v : Value) (qs : List (LE × List Int)) : Prop where
  own : Own encLE 3 67 w base v (qs.map (·.1))
  each : ∀ q ∈ qs, Own encB 1 5 w base (.slice q.1.A q.1.n q.1.c) q.2 ∧ ((Value.slice q.1.A q.1.n q.1.c).ownBlock = none ∨ (Value.slice q.1.A q.1.n q.1.c).ownBlock ≠ v.ownBlock) ∧ q.2.length ≤ 140737488351232

theorem OEnts.nil {w : World} {base : Nat} : OEnts w base (.slice none 0 0) [] := ⟨Own.nil, by simp⟩
theorem OEnts.alloc {w : World} {base : Nat} {v : Value} {qs : List (LE × List Int)} (h : OEnts w base v qs) (o : Obj) : OEnts (w.alloc o) base v qs :=
  ⟨h.own.alloc o, fun q hq => ⟨(h.each q hq).1.alloc o, (h.each q hq).2⟩⟩
theorem OEnts.below {w w' : World} {base B : Nat} {v : Value} {qs : List (LE × List Int)} (h : OEnts w base v qs) (hb : Below B w w') (hB : w.heap.size ≤ B) : OEnts w' base v qs :=
  ⟨h.own.below hb hB, fun q hq => ⟨(h.each q hq).1.below hb hB, (h.each q hq).2⟩⟩
theorem OEnts.weaken {w : World} {base base' : Nat} {v : Value} {qs : List (LE × List Int)} (h : OEnts w base v qs) (hb : base' ≤ base) : OEnts w base' v qs :=
  ⟨h.own.weaken hb, fun q hq => ⟨(h.each q hq).1.weaken hb, (h.each q hq).2⟩⟩
theorem OEnts.ents {w : World} {base c n : Nat} {A : Option Addr} {qs : List (LE × List Int)} (h : OEnts w base (.slice A n c) qs) : Ents w w.heap.size A qs := by
  have hl := (Own.cap h.own).1
  subst hl
  refine ⟨h.own.row len_LE, fun q hq => ?_⟩
  have h1 := (h.each q hq).1
  have h2 := (Own.cap h1).1
  have h1' : Own encB 1 5 w base (.slice q.1.A q.2.length q.1.c) q.2 := by rw [← h2]; exact h1
  exact ⟨h1'.row len_B, h2, (h.each q hq).2.2⟩

theorem ents_at {w : World} {B k : Nat} {A : Option Addr} {ps : List (LE × List Int)} {p : LE × List Int} (h : Ents w B A ps) (hk : ps[k]? = some p) :
    ∃ b o, A = some ⟨b, o, none⟩ ∧ b < B ∧ w.cell? ⟨b, o + k * 3, none⟩ = some (.int .i64 p.1.idx) ∧ w.cell? ⟨b, o + k * 3 + 1, none⟩ = some (.int .i64 p.1.term) ∧ w.cell? ⟨b, o + k * 3 + 2, none⟩ = some (.slice p.1.A p.1.n p.1.c) := by
  obtain ⟨b, o, hA, hb, hc⟩ := h.row.at_ (k := k) (x := p.1) (by rw [List.getElem?_map, hk]; rfl)
  exact ⟨b, o, hA, hb, hc 0 _ rfl, hc 1 _ rfl, hc 2 _ rfl⟩

theorem row_one_LE (w : World) (x : LE) (g : Nat) (hg : g = w.heap.size) : Row encLE 3 (w.alloc (.cells #[.int .i64 x.idx, .int .i64 x.term, .slice x.A x.n x.c] 67)) (g + 1) (some ⟨g, 0, none⟩) [x] :=
  .inr ⟨_, _, rfl, by omega, fun k y hk j v hv => by
    subst hg
    have hk0 : k = 0 := by have := (List.getElem?_eq_some_iff.1 hk).1; simp at this; exact this
    subst hk0
    simp at hk; subst hk
    match j, hv with
    | 0, hv => simp [encLE] at hv; subst hv; simp
    | 1, hv => simp [encLE] at hv; subst hv; simp
    | 2, hv => simp [encLE] at hv; subst hv; simp⟩

theorem World.alloc_at (w : World) (o : Obj) : (w.alloc o).heap[w.heap.size]? = some o := by
  unfold World.alloc; simp
theorem World.alloc_size (w : World) (o : Obj) : (w.alloc o).heap.size = w.heap.size + 1 := by
  simp
theorem frozen_block {w : World} {b : Nat} {arr : Array Value} {t : TypeId} (h : w.heap[b]? = some (.cells arr t (0, 0))) (o : Nat) : w.frozen? ⟨b, o, none⟩ = false := by
  simp [World.frozen?, h]
theorem cell_block {w : World} {b : Nat} {arr : Array Value} {t : TypeId} (h : w.heap[b]? = some (.cells arr t (0, 0))) (o : Nat) (v : Value) (hv : arr[o]? = some v) : w.cell? ⟨b, o, none⟩ = some v := by
  simp [World.cell?, h, hv]

theorem OEnts.app {w w' : World} {base : Nat} {v v' : Value} {qs rs : List (LE × List Int)} (h : OEnts w base v qs)
    (hr : ∀ q ∈ rs, Own encB 1 5 w base (.slice q.1.A q.1.n q.1.c) q.2 ∧ ((Value.slice q.1.A q.1.n q.1.c).ownBlock = none ∨ (Value.slice q.1.A q.1.n q.1.c).ownBlock ≠ v.ownBlock) ∧ q.2.length ≤ 140737488351232)
    (hown : Own encLE 3 67 w' base v' (qs.map (·.1) ++ rs.map (·.1))) (hg : w.grownBy w' v.ownBlock) (hv : v'.ownBlock = v.ownBlock ∨ v'.ownBlock = some w.heap.size) : OEnts w' base v' (qs ++ rs) := by
  refine ⟨by rw [List.map_append]; exact hown, fun q hq => ?_⟩
  have hq' : Own encB 1 5 w base (.slice q.1.A q.1.n q.1.c) q.2 ∧ ((Value.slice q.1.A q.1.n q.1.c).ownBlock = none ∨ (Value.slice q.1.A q.1.n q.1.c).ownBlock ≠ v.ownBlock) ∧ q.2.length ≤ 140737488351232 := by
    rcases List.mem_append.1 hq with hq | hq
    · exact h.each q hq
    · exact hr q hq
  obtain ⟨h1, h2, h3⟩ := hq'
  refine ⟨h1.kept hg h2, ?_, h3⟩
  rcases h2 with h2 | h2
  · exact .inl h2
  · rcases hv with hv | hv
    · right; rw [hv]; exact h2
    · right; rw [hv]; intro e; exact absurd (h1.lt _ e).2 (by omega)

theorem take_map_snoc {ps qs : List (LE × List Int)} {k : Nat} {p q : LE × List Int} (hk : ps[k]? = some p) (h : qs.map con = (ps.take k).map con) (hq : con q = con p) : (qs ++ [q]).map con = (ps.take (k + 1)).map con := by
  rw [List.map_append, h, List.take_add_one, hk, List.map_append]
  simp [hq]

set_option maxRecDepth 100000 in
set_option maxHeartbeats 4000000 in
theorem copied_any (A : Option Addr) (n c : Nat) (ps : List (LE × List Int)) (w : World) (hx : Ents w w.heap.size A ps) (hn : n = ps.length) (hl : ps.length ≤ 100000) :
    Calls Tryz.prog 58 #[.slice A n c] w fun e w' => ∃ v qs, e = .returned v ∧ OEnts w' w.heap.size v qs ∧ qs.map con = ps.map con ∧ Below w.heap.size w w' := by
  subst hn
  go_enter Tryz.func58, Tryz.ntmps58
  go_wp2
  go_loopw [3, 8] (fun l i wr => ∃ (k : Nat) (qs : List (LE × List Int)), i = .int .i64 k ∧ k ≤ ps.length ∧ OEnts wr w.heap.size l qs ∧ qs.map con = (ps.take k).map con ∧ Below w.heap.size w wr) (fun _ i _ => ps.length - (intOf i).toNat)
  case atStart => exact ⟨0, [], rfl, by omega, OEnts.nil, rfl, Below.refl _ _⟩
  case round =>
    obtain ⟨k, qs, rfl, hk, hown, hq, hb⟩ := hrel
    by_cases hlt : k < ps.length
    · have hpk := List.getElem?_eq_getElem hlt
      obtain ⟨ba, o, rfl, _, c0, c1, c2⟩ := ents_at (hx.below hb) hpk
      obtain ⟨hB, hnl, hlen⟩ := (hx.below hb).each _ (List.getElem_mem hlt)
      have hsz := hb.size
      have hql : qs.length = k := by have := congrArg List.length hq; simp at this; omega
      have HP := Lib.hid hpk
      clear hpk
      generalize ps[k] = p at c0 c1 c2 hB hnl hlen HP
      have hB' : ∀ ob, Bytes (wr.alloc ob) (wr.heap.size + 1) p.1.A p.2 := fun ob => ((hB.more hsz).alloc (Nat.le_refl _) ob).more (by omega)
      go_wp2_with (first
        | (go_at_call 79; refine (bclone_any _ _ _ p.2 _ (by simpa using hB' _) (by first | rfl | exact hnl) hlen).mono ?_; rintro e w1 ⟨v1, rfl, hown1, hb1⟩; obtain ⟨A1, c1', rfl⟩ := hown1.form; have hblk := (hb1.block wr.heap.size (by simp)).trans (World.alloc_at _ _); have hf := frozen_block hblk; have d0 := cell_block hblk 0 _ rfl; have d1 := cell_block hblk 1 _ rfl; have d2 := cell_block hblk 2 _ rfl; simp only [World.alloc_size] at hown1 hb1; have hB1 : ∀ u, Below wr.heap.size wr (w1.setCell ⟨wr.heap.size, 2, none⟩ u) := (fun u => (((Below.refl _ _).alloc (Nat.le_refl _) _).trans (hb1.mono (by omega))).setCell (p := ⟨wr.heap.size, 2, none⟩) (Nat.le_refl _) u); have hO2 := fun u o => (hown.below (hB1 u) (Nat.le_refl _)).alloc o)
        | (at_builtin; refine wp_app _ encLE 3 rfl _ _ 46 rfl w.heap.size 67 40 Tryz.underlying46 info67 (by omega) len_LE one_LE _ (qs.map (·.1)) rfl (hO2 _ _).own _ _ 1 1 [⟨p.1.idx, p.1.term, A1, p.2.length, c1'⟩] rfl rfl (row_one_LE _ ⟨p.1.idx, p.1.term, A1, p.2.length, c1'⟩ _ (by simp)) (by simp; omega) (by simp; omega) (by have := (hB1 (.slice A1 p.2.length c1')).size; simp at this ⊢; omega) ?_; intro v3 w3 hown3 hg3 hat3 _))
      have hsz1 := hb1.size
      simp only [World.alloc_size] at hsz1
      have hbw : ∀ u o, Below w.heap.size w ((w1.setCell ⟨wr.heap.size, 2, none⟩ u).alloc o) := fun u o => (hb.trans ((hB1 u).mono hsz)).alloc (by simp; omega) _
      have hb3 := (hbw _ _).grown hg3 (by simp; omega) (fun j hj => (hown.own.lt j hj).1)
      have hlen1 : ((⟨p.1.idx, p.1.term, A1, p.2.length, c1'⟩ : LE), p.2).2.length ≤ 140737488351232 := hlen
      go_roundw
      case rel =>
        refine ⟨k + 1, qs ++ [(⟨p.1.idx, p.1.term, A1, p.2.length, c1'⟩, p.2)], by go_num, by omega, (hO2 _ _).app (rs := [(⟨p.1.idx, p.1.term, A1, p.2.length, c1'⟩, p.2)]) ?_ hown3 hg3 hat3, take_map_snoc HP.out hq rfl, hb3⟩
        intro q hq
        simp only [List.mem_singleton] at hq
        subst hq
        refine ⟨?_, ?_, hlen⟩
        · exact Own.weaken (Own.alloc (show Own encB 1 5 (w1.setCell ⟨wr.heap.size, 2, none⟩ _) (wr.heap.size + 1) _ p.2 from ownsRow_setCell_below hown1 (Nat.lt_succ_self _) _) _) (by omega)
        · cases A1 with
          | none => exact .inl rfl
          | some a1 =>
            right
            intro e
            have h1 := (hown1.lt a1.block rfl).1
            have h2 := (hown.own.lt _ e.symm).2
            omega
      case measure => simp [intOf]; omega
    · have HZ := Lib.hid (show ps.take k = ps from List.take_of_length_le (by omega))
      go_wp2
      go_ret
      exact ⟨_, _, rfl, hown, by rw [hq, HZ.out], hb⟩
end Go.Proofs.YtocogcgnahbpkaaGreat
