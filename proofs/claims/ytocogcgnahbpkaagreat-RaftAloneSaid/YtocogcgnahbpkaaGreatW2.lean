/-
  World.complete where it says yes.
-/
import Derived.Test.YtocogcgnahbpkaaGreatW1
import Derived.Test.YtocogcgnahbpkaaGreatN11
namespace Go.Proofs.YtocogcgnahbpkaaGreat
open Go.RowKit

/-- What is known as committed is in the log; in which terms it was told. -/
structure KInv (known : List (Int × (LE × List Int))) (tm : List (Int × Int)) (h : Nat) (lg : List E) (t : Int) : Prop where
  h1 : h ≤ lg.length
  k : ∀ i : Nat, i < h → ∃ q, kget known ((i : Int) + 1) = some q ∧ lg[i]? = some (con q)
  n : ∀ i : Int, (h : Int) < i → kget known i = none
  t : ∀ i : Nat, i < h → ∃ τ, kget tm ((i : Int) + 1) = some τ ∧ τ ≤ t

theorem zero67 : ∀ w, (zeroValue 67).run Tryz.prog w = .ok (.agg #[.int .i64 0, .int .i64 0, .slice none 0 0]) w := fun w => by kernel_rfl
theorem kget_mem {α β : Type} [DecidableEq α] {l : List (α × β)} {x : α} {v : β} (h : kget l x = some v) : (x, v) ∈ l := by
  unfold kget at h
  obtain ⟨p, hp, rfl⟩ := Option.map_eq_some_iff.1 h
  have h1 := List.mem_of_find?_eq_some hp
  have h2 := List.find?_some hp
  simp only [decide_eq_true_eq] at h2
  subst h2
  exact h1

theorem ents_one' {w : World} {b : Nat} {q : LE × List Int} {S : Nat → Prop} {B : Nat} (hb : w.heap[b]? = some (.cells #[.int .i64 q.1.idx, .int .i64 q.1.term, .slice q.1.A q.1.n q.1.c] 67 (0, 0))) (hd : RowS encB 1 w S q.1.A q.2) (hS : ∀ i, S i → i < B) (hB : b < B) (hn : q.1.n = q.2.length) (hl : q.2.length ≤ 140737488351232) :
    Ents w B (some ⟨b, 0, none⟩) [q] := by
  refine ⟨.inr ⟨b, 0, rfl, hB, fun k x hx j v hv => ?_⟩, fun p hp => ?_⟩
  · have hk : k = 0 := by have := (List.getElem?_eq_some_iff.1 hx).1; simp at this; exact this
    subst hk
    simp at hx; subst hx
    match j, hv with
    | 0, hv => simp [encLE] at hv; subst hv; exact cell_block hb 0 _ rfl
    | 1, hv => simp [encLE] at hv; subst hv; exact cell_block hb 1 _ rfl
    | 2, hv => simp [encLE] at hv; subst hv; exact cell_block hb 2 _ rfl
  · simp only [List.mem_singleton] at hp
    subst hp
    exact ⟨hd.row hS, hn, hl⟩

theorem cells3 {w : World} {b : Nat} {a0 a1 a2 : Value} {t : TypeId} (h : w.heap[b]? = some (.cells #[a0, a1, a2] t (0, 0))) : w.cell? ⟨b, 0, none⟩ = some a0 ∧ w.cell? ⟨b, 1, none⟩ = some a1 ∧ w.cell? ⟨b, 2, none⟩ = some a2 :=
  ⟨cell_block h 0 _ rfl, cell_block h 1 _ rfl, cell_block h 2 _ rfl⟩

theorem alloc2_0 (w : World) (o p : Obj) : ((w.alloc o).alloc p).drew.heap[w.heap.size]? = some o := block_alloc (World.alloc_at w o) p
theorem alloc2_1 (w : World) (o p : Obj) : ((w.alloc o).alloc p).drew.heap[w.heap.size + 1]? = some p := by
  have := World.alloc_at (w.alloc o) p
  rw [World.alloc_size] at this
  exact this

set_option maxRecDepth 100000 in
set_option maxHeartbeats 4000000 in
theorem complete_yes (bw b1 h : Nat) (g : WG) (S : Nat → Prop) (t : Int) (w : World) (ha : WAt w S bw b1 g) (hk : KInv g.known g.tm h (g.dl.map con) t) (hh : g.high = h) (ht : t < g.t) (hl : g.dl.length ≤ 100000) :
    Calls Tryz.prog 82 #[.pointer (some ⟨bw, 0, none⟩), .pointer (some ⟨b1, 0, none⟩)] w fun e w' => e = .returned (.bool true) ∧ Below w.heap.size w w' := by
  have hhl : h ≤ g.dl.length := by simpa using hk.h1
  have HA := Lib.hid ha
  have HK := Lib.hid hk
  have HT := Lib.hid ht
  have d5 := sc5 ha.sb
  have hlw := block_lt ha.wb
  have hlb := block_lt ha.sb
  clear ha hk ht
  go_enter Tryz.func82, Tryz.ntmps82
  go_wp2
  go_loopw [5] (fun i wr => ∃ k : Nat, i = .int .i64 ((k : Int) + 1) ∧ k ≤ h ∧ Below w.heap.size w wr) (fun i _ => h + 1 - (intOf i).toNat)
  case atStart => exact ⟨0, rfl, by omega, Below.refl _ _⟩
  case round =>
    obtain ⟨k, rfl, hkh, hb⟩ := hrel
    have HW := Lib.hid (HA.out.below hb)
    have c12 := wc12 HW.out.wb
    rw [hh] at c12
    have hszr := hb.size
    by_cases hlt : k < h
    · obtain ⟨q, hq, hlq⟩ := HK.out.k k hlt
      obtain ⟨τ, hτ, hτt⟩ := HK.out.t k hlt
      rw [List.getElem?_map] at hlq
      obtain ⟨p, hp, hpc⟩ := Option.map_eq_some_iff.1 hlq
      have hqb := HW.out.kb _ (kget_mem hq)
      have hpb := HW.out.dl.each _ (List.mem_of_getElem? hp)
      have hok : okI ((k : Int) + 1) := by unfold okI; omega
      have lk : ∀ W, Below wr.heap.size wr W → (Instr.lookup 41 (.map (some g.mK)) (.int .i64 ((k : Int) + 1)) true).run Tryz.prog W = .ok (.tuple #[.agg #[.int .i64 q.1.idx, .int .i64 q.1.term, .slice q.1.A q.1.n q.1.c], .bool true]) W := fun W hW => by
        have := (HW.out.below hW).known.look_ok KI Tryz.underlying41 ((k : Int) + 1) hok _ zero67
        rw [hq] at this
        exact this
      have lt : ∀ W, Below wr.heap.size wr W → (Instr.lookup 39 (.map (some g.mT)) (.int .i64 ((k : Int) + 1)) false).run Tryz.prog W = .ok (.int .i64 τ) W := fun W hW => by
        have := (HW.out.below hW).tm.look KI Tryz.underlying39 ((k : Int) + 1) hok _ zero3
        rw [hτ] at this
        exact this
      have lk0 := lk wr (Below.refl _ _)
      have c10 := wc10 HW.out.wb
      have LT := Lib.hid lt
      have HP := Lib.hid (And.intro hp hpc)
      have HKQ := Lib.hid hq
      have HQB := Lib.hid hqb
      have HPB := Lib.hid hpb
      clear lk hq hτ hp hpc hqb hpb lt hlq
      go_wp2_with (fail)
      have hB1 := below_alloc1 wr (.cells #[.int .i64 q.1.idx, .int .i64 q.1.term, .slice q.1.A q.1.n q.1.c] 67)
      have hX1 := World.alloc_at wr (.cells #[.int .i64 q.1.idx, .int .i64 q.1.term, .slice q.1.A q.1.n q.1.c] 67)
      generalize wr.alloc (.cells #[.int .i64 q.1.idx, .int .i64 q.1.term, .slice q.1.A q.1.n q.1.c] 67) = W1 at hB1 hX1 ⊢
      refine (entry_yes bw b1 g k p W1 (HW.out.below hB1).sb ((HW.out.below hB1).dl.ents (HW.out.below hB1).bd) HW.out.dn HP.out.1 hl).mono ?_
      rintro e w2 ⟨rfl, hb2⟩
      unfold encK
      go_upto_region 6 with (fail)
      have hz1 := hB1.size
      have hz2 := hb2.size
      have hB3 : Below wr.heap.size wr (w2.alloc (.cells #[.int .i64 p.1.idx, .int .i64 p.1.term, .slice p.1.A p.1.n p.1.c] 67)) := (hB1.trans (hb2.mono hz1)).alloc (by omega) _
      have hX3 := block_alloc ((hb2.block wr.heap.size (block_lt hX1)).trans hX1) (.cells #[.int .i64 p.1.idx, .int .i64 p.1.term, .slice p.1.A p.1.n p.1.c] 67)
      have hY3 := World.alloc_at w2 (.cells #[.int .i64 p.1.idx, .int .i64 p.1.term, .slice p.1.A p.1.n p.1.c] 67)
      obtain ⟨x, hx⟩ : ∃ x, x = wr.heap.size := ⟨_, rfl⟩
      obtain ⟨y, hy⟩ : ∃ y, y = w2.heap.size := ⟨_, rfl⟩
      rw [← hx] at hX3
      rw [← hy] at hY3
      rw [← hx, ← hy]
      have HX := Lib.hid hx
      have hyx : y ≠ x := by have := block_lt hX1; omega
      generalize w2.alloc (.cells #[.int .i64 p.1.idx, .int .i64 p.1.term, .slice p.1.A p.1.n p.1.c] 67) = W3 at hB3 hX3 hY3 ⊢
      have HX3 := Lib.hid hX3
      have HY3 := Lib.hid hY3
      have HB3 := Lib.hid hB3
      have HSS : Hid (∀ W, Below W3.heap.size W3 W → W.cell? ⟨bw, 11, none⟩ = some (.map (some g.mT)) ∧ (Instr.lookup 39 (.map (some g.mT)) (.int .i64 ((k : Int) + 1)) false).run Tryz.prog W = .ok (.int .i64 τ) W ∧ W.cell? ⟨b1, 3, none⟩ = some (.int .i64 g.t) ∧
          W.cell? ⟨x, 0, none⟩ = some (.int .i64 q.1.idx) ∧ W.cell? ⟨x, 1, none⟩ = some (.int .i64 q.1.term) ∧ W.cell? ⟨x, 2, none⟩ = some (.slice q.1.A q.1.n q.1.c) ∧ W.cell? ⟨y, 0, none⟩ = some (.int .i64 p.1.idx) ∧ W.cell? ⟨y, 1, none⟩ = some (.int .i64 p.1.term) ∧ W.cell? ⟨y, 2, none⟩ = some (.slice p.1.A p.1.n p.1.c)) := Lib.hid (fun W hW => by
        have hbW : Below wr.heap.size wr W := HB3.out.trans (hW.mono HB3.out.size)
        have hA := HW.out.below hbW
        have hx' := (hW.block x (block_lt HX3.out)).trans HX3.out
        have hy' := (hW.block y (block_lt HY3.out)).trans HY3.out
        exact ⟨wc11 hA.wb, LT.out W hbW, sc3 hA.sb, (cells3 hx').1, (cells3 hx').2.1, (cells3 hx').2.2, (cells3 hy').1, (cells3 hy').2.1, (cells3 hy').2.2⟩)
      have HSL : Hid (∀ W i j, Below W3.heap.size W3 W → W.heap[i]? = some (.cells #[.int .i64 p.1.idx, .int .i64 p.1.term, .slice p.1.A p.1.n p.1.c] 67 (0, 0)) → W.heap[j]? = some (.cells #[.int .i64 q.1.idx, .int .i64 q.1.term, .slice q.1.A q.1.n q.1.c] 67 (0, 0)) →
          Calls Tryz.prog 45 #[.slice (some ⟨i, 0, none⟩) 1 1, .slice (some ⟨j, 0, none⟩) 1 1] W fun e w' => e = .returned (.bool true) ∧ ∃ k, w' = W.drewN k) := Lib.hid (fun W i j hW hi hj => by
        have hbW : Below wr.heap.size wr W := HB3.out.trans (hW.mono HB3.out.size)
        have hA := HW.out.below hbW
        have hq' := hA.kb _ (kget_mem HKQ.out)
        have hp' := hA.dl.each _ (List.mem_of_getElem? HP.out.1)
        exact sameLog_yes _ _ 1 1 1 1 [p] [q] W (ents_one' hi hp'.1 hA.bd (block_lt hi) hp'.2.1 hp'.2.2) rfl (ents_one' hj hq'.1 hA.bd (block_lt hj) hq'.2.1 hq'.2.2) rfl (by simp) (by simp [HP.out.2]))
      obtain ⟨f0, f1, f2, f3, f4, f5, f6, f7, f8⟩ := HSS.out W3 (Below.refl _ _)
      have hττ : τ < g.t := by have := HT.out; omega
      have hlx : x < W3.heap.size := block_lt hX3
      have hly : y < W3.heap.size := block_lt hY3
      have hl3 : wr.heap.size ≤ W3.heap.size := hB3.size
      clear hB3 hX3 hY3 hB1 hX1 hb2 hz1 hz2 hx hy HPB HQB LT lk0 c10 c12
      refine wp_region_held_drew (S := (fun W => W.cell? ⟨bw, 11, none⟩ = some (.map (some g.mT)) ∧ (Instr.lookup 39 (.map (some g.mT)) (.int .i64 ((k : Int) + 1)) false).run Tryz.prog W = .ok (.int .i64 τ) W ∧ W.cell? ⟨b1, 3, none⟩ = some (.int .i64 g.t) ∧ W.cell? ⟨x, 0, none⟩ = some (.int .i64 q.1.idx) ∧ W.cell? ⟨x, 1, none⟩ = some (.int .i64 q.1.term) ∧ W.cell? ⟨x, 2, none⟩ = some (.slice q.1.A q.1.n q.1.c) ∧ W.cell? ⟨y, 0, none⟩ = some (.int .i64 p.1.idx) ∧ W.cell? ⟨y, 1, none⟩ = some (.int .i64 p.1.term) ∧ W.cell? ⟨y, 2, none⟩ = some (.slice p.1.A p.1.n p.1.c))) (by kernel_rfl) (HSS.out _ (Below.refl _ _).drew) (fun hHeld => ?_)
      refine wpAnyH_take (i := 0) (v := .bool true) rfl (by kernel_rfl) (by kernel_rfl) (by kernel_rfl) (fun _ _ _ h => h) (Or.inl ⟨by rfl, ?_⟩) (by assumption) ?_
      · intro w hSw; go_simp
      try simp only [Act.put, List.getElem_toArray, List.getElem_cons_zero]
      try simp only [List.setIfInBounds_toArray, List.set_cons_zero, List.set_cons_succ]
      refine wpAnyH_take (i := 1) (v := .bool true) rfl (by kernel_rfl) (by kernel_rfl) (by kernel_rfl) (fun _ _ _ h => h) (Or.inl ⟨by rfl, ?_⟩) (by assumption) ?_
      · intro w hSw; go_simp
      try simp only [Act.put, List.getElem_toArray, List.getElem_cons_succ, List.getElem_cons_zero]
      try simp only [List.setIfInBounds_toArray, List.set_cons_zero, List.set_cons_succ]
      refine wpAnyH_take (i := 2) (v := .pointer (some ⟨bw, 0, none⟩)) rfl (by kernel_rfl) (by kernel_rfl) (by kernel_rfl) (fun _ _ _ h => h) (Or.inl ⟨by rfl, ?_⟩) (by assumption) ?_
      · intro w hSw; go_simp
      try simp only [Act.put, List.getElem_toArray, List.getElem_cons_succ, List.getElem_cons_zero]
      try simp only [List.setIfInBounds_toArray, List.set_cons_zero, List.set_cons_succ]
      refine wpAnyH_take (i := 3) (v := .pointer (some ⟨bw, 0, none⟩)) rfl (by kernel_rfl) (by kernel_rfl) (by kernel_rfl) (fun _ _ _ h => h) (Or.inl ⟨by rfl, ?_⟩) (by assumption) ?_
      · intro w hSw; go_simp
      try simp only [Act.put, List.getElem_toArray, List.getElem_cons_succ, List.getElem_cons_zero]
      try simp only [List.setIfInBounds_toArray, List.set_cons_zero, List.set_cons_succ]
      refine wpAnyH_take (i := 4) (v := .pointer (some ⟨bw, 11, none⟩)) rfl (by kernel_rfl) (by kernel_rfl) (by kernel_rfl) (fun _ _ _ h => h) (Or.inl ⟨by rfl, ?_⟩) (by assumption) ?_
      · intro w hSw; go_simp
      try simp only [Act.put, List.getElem_toArray, List.getElem_cons_succ, List.getElem_cons_zero]
      try simp only [List.setIfInBounds_toArray, List.set_cons_zero, List.set_cons_succ]
      refine wpAnyH_take (i := 5) (v := .map (some g.mT)) rfl (by kernel_rfl) (by kernel_rfl) (by kernel_rfl) (fun _ _ _ h => h) (Or.inl ⟨by rfl, ?_⟩) (by assumption) ?_
      · intro w hSw; go_simp
      try simp only [Act.put, List.getElem_toArray, List.getElem_cons_succ, List.getElem_cons_zero]
      try simp only [List.setIfInBounds_toArray, List.set_cons_zero, List.set_cons_succ]
      refine wpAnyH_take (i := 6) (v := .int .i64 ((k : Int) + 1)) rfl (by kernel_rfl) (by kernel_rfl) (by kernel_rfl) (fun _ _ _ h => h) (Or.inl ⟨by rfl, ?_⟩) (by assumption) ?_
      · intro w hSw; go_simp
      try simp only [Act.put, List.getElem_toArray, List.getElem_cons_succ, List.getElem_cons_zero]
      try simp only [List.setIfInBounds_toArray, List.set_cons_zero, List.set_cons_succ]
      refine wpAnyH_take (i := 7) (v := .int .i64 τ) rfl (by kernel_rfl) (by kernel_rfl) (by kernel_rfl) (fun _ _ _ h => h) (Or.inl ⟨by rfl, ?_⟩) (by assumption) ?_
      · intro w hSw; go_simp
      try simp only [Act.put, List.getElem_toArray, List.getElem_cons_succ, List.getElem_cons_zero]
      try simp only [List.setIfInBounds_toArray, List.set_cons_zero, List.set_cons_succ]
      refine wpAnyH_take (i := 8) (v := .pointer (some ⟨b1, 0, none⟩)) rfl (by kernel_rfl) (by kernel_rfl) (by kernel_rfl) (fun _ _ _ h => h) (Or.inl ⟨by rfl, ?_⟩) (by assumption) ?_
      · intro w hSw; go_simp
      try simp only [Act.put, List.getElem_toArray, List.getElem_cons_succ, List.getElem_cons_zero]
      try simp only [List.setIfInBounds_toArray, List.set_cons_zero, List.set_cons_succ]
      refine wpAnyH_take (i := 9) (v := .pointer (some ⟨b1, 0, none⟩)) rfl (by kernel_rfl) (by kernel_rfl) (by kernel_rfl) (fun _ _ _ h => h) (Or.inl ⟨by rfl, ?_⟩) (by assumption) ?_
      · intro w hSw; go_simp
      try simp only [Act.put, List.getElem_toArray, List.getElem_cons_succ, List.getElem_cons_zero]
      try simp only [List.setIfInBounds_toArray, List.set_cons_zero, List.set_cons_succ]
      refine wpAnyH_take (i := 10) (v := .pointer (some ⟨b1, 3, none⟩)) rfl (by kernel_rfl) (by kernel_rfl) (by kernel_rfl) (fun _ _ _ h => h) (Or.inl ⟨by rfl, ?_⟩) (by assumption) ?_
      · intro w hSw; go_simp
      try simp only [Act.put, List.getElem_toArray, List.getElem_cons_succ, List.getElem_cons_zero]
      try simp only [List.setIfInBounds_toArray, List.set_cons_zero, List.set_cons_succ]
      refine wpAnyH_take (i := 11) (v := .pointer (some ⟨b1, 3, none⟩)) rfl (by kernel_rfl) (by kernel_rfl) (by kernel_rfl) (fun _ _ _ h => h) (Or.inl ⟨by rfl, ?_⟩) (by assumption) ?_
      · intro w hSw; go_simp
      try simp only [Act.put, List.getElem_toArray, List.getElem_cons_succ, List.getElem_cons_zero]
      try simp only [List.setIfInBounds_toArray, List.set_cons_zero, List.set_cons_succ]
      refine wpAnyH_take (i := 12) (v := .pointer (some ⟨b1, 3, none⟩)) rfl (by kernel_rfl) (by kernel_rfl) (by kernel_rfl) (fun _ _ _ h => h) (Or.inl ⟨by rfl, ?_⟩) (by assumption) ?_
      · intro w hSw; go_simp
      try simp only [Act.put, List.getElem_toArray, List.getElem_cons_succ, List.getElem_cons_zero]
      try simp only [List.setIfInBounds_toArray, List.set_cons_zero, List.set_cons_succ]
      refine wpAnyH_take (i := 13) (v := .int .i64 g.t) rfl (by kernel_rfl) (by kernel_rfl) (by kernel_rfl) (fun _ _ _ h => h) (Or.inl ⟨by rfl, ?_⟩) (by assumption) ?_
      · intro w hSw; go_simp
      try simp only [Act.put, List.getElem_toArray, List.getElem_cons_succ, List.getElem_cons_zero]
      try simp only [List.setIfInBounds_toArray, List.set_cons_zero, List.set_cons_succ]
      refine wpAnyH_take (i := 14) (v := .bool true) rfl (by kernel_rfl) (by kernel_rfl) (by kernel_rfl) (fun _ _ _ h => h) (Or.inl ⟨by rfl, ?_⟩) (by assumption) ?_
      · intro w hSw; go_simp
      try simp only [Act.put, List.getElem_toArray, List.getElem_cons_succ, List.getElem_cons_zero]
      try simp only [List.setIfInBounds_toArray, List.set_cons_zero, List.set_cons_succ]
      refine wpAnyH_take (i := 15) (v := .bool true) rfl (by kernel_rfl) (by kernel_rfl) (by kernel_rfl) (fun _ _ _ h => h) (Or.inl ⟨by rfl, ?_⟩) (by assumption) ?_
      · intro w hSw; go_simp
      try simp only [Act.put, List.getElem_toArray, List.getElem_cons_succ, List.getElem_cons_zero]
      try simp only [List.setIfInBounds_toArray, List.set_cons_zero, List.set_cons_succ]
      refine wpAnyH_take (i := 16) (v := .bool true) rfl (by kernel_rfl) (by kernel_rfl) (by kernel_rfl) (fun _ _ _ h => h) (Or.inl ⟨by rfl, ?_⟩) (by assumption) ?_
      · intro w hSw; go_simp
      try simp only [Act.put, List.getElem_toArray, List.getElem_cons_succ, List.getElem_cons_zero]
      try simp only [List.setIfInBounds_toArray, List.set_cons_zero, List.set_cons_succ]
      refine wpAnyH_take (i := 17) (v := .bool true) rfl (by kernel_rfl) (by kernel_rfl) (by kernel_rfl) (fun _ _ _ h => h) (Or.inl ⟨by rfl, ?_⟩) (by assumption) ?_
      · intro w hSw; go_simp
      try simp only [Act.put, List.getElem_toArray, List.getElem_cons_succ, List.getElem_cons_zero]
      try simp only [List.setIfInBounds_toArray, List.set_cons_zero, List.set_cons_succ]
      refine wpAnyH_take (i := 18) (v := .bool false) rfl (by kernel_rfl) (by kernel_rfl) (by kernel_rfl) (fun _ _ _ h => h) (Or.inl ⟨by rfl, ?_⟩) (by assumption) ?_
      · intro w hSw; go_simp
      try simp only [Act.put, List.getElem_toArray, List.getElem_cons_succ, List.getElem_cons_zero]
      try simp only [List.setIfInBounds_toArray, List.set_cons_zero, List.set_cons_succ]
      refine wpAnyH_take (i := 19) (v := .bool false) rfl (by kernel_rfl) (by kernel_rfl) (by kernel_rfl) (fun _ _ _ h => h) (Or.inl ⟨by rfl, ?_⟩) (by assumption) ?_
      · intro w hSw; go_simp
      try simp only [Act.put, List.getElem_toArray, List.getElem_cons_succ, List.getElem_cons_zero]
      try simp only [List.setIfInBounds_toArray, List.set_cons_zero, List.set_cons_succ]
      refine wpAnyH_take (i := 20) (v := .agg #[.int .i64 p.1.idx, .int .i64 p.1.term, .slice p.1.A p.1.n p.1.c]) rfl (by kernel_rfl) (by kernel_rfl) (by kernel_rfl) (fun _ _ _ h => h) (Or.inl ⟨by rfl, ?_⟩) (by assumption) ?_
      · intro w hSw; go_simp
      try simp only [Act.put, List.getElem_toArray, List.getElem_cons_succ, List.getElem_cons_zero]
      try simp only [List.setIfInBounds_toArray, List.set_cons_zero, List.set_cons_succ]
      refine wpAnyH_take (i := 22) (v := .agg #[.int .i64 q.1.idx, .int .i64 q.1.term, .slice q.1.A q.1.n q.1.c]) rfl (by kernel_rfl) (by kernel_rfl) (by kernel_rfl) (fun _ _ _ h => h) (Or.inl ⟨by rfl, ?_⟩) (by assumption) ?_
      · intro w hSw; go_simp
      try simp only [Act.put, List.getElem_toArray, List.getElem_cons_succ, List.getElem_cons_zero]
      try simp only [List.setIfInBounds_toArray, List.set_cons_zero, List.set_cons_succ]
      refine wpAnyH_ready (rs := [21, 23]) (by kernel_rfl) (by simp) ?_
      refine AllReadyH.cons rfl (fun K hK => ?_) (AllReadyH.cons rfl (fun K hK => ?_) AllReadyH.nil)
      ·
        go_simp
        refine hK.out _ _ ?_ (fun hHeld => ?_)
        · exact HSS.out _ (by repeat' (first | exact Below.refl _ _ | refine Below.drew ?_ | refine below_drewN' ?_ _ | refine Below.alloc ?_ (by first | exact Nat.le_refl _ | (simp; done) | (simp; omega)) _))
        clear hK K
        try simp only [Act.put, List.getElem_toArray, List.getElem_cons_succ, List.getElem_cons_zero]
        try simp only [Act.put, List.setIfInBounds_toArray, List.set_cons_zero, List.set_cons_succ]
        refine wpAnyH_ready (rs := [23]) (by kernel_rfl) (by simp) ?_
        refine AllReadyH.cons rfl (fun K hK => ?_) AllReadyH.nil
        go_simp
        refine hK.out _ _ ?_ (fun hHeld => ?_)
        · exact HSS.out _ (by repeat' (first | exact Below.refl _ _ | refine Below.drew ?_ | refine below_drewN' ?_ _ | refine Below.alloc ?_ (by first | exact Nat.le_refl _ | (simp; done) | (simp; omega)) _))
        clear hK K
        try simp only [Act.put, List.getElem_toArray, List.getElem_cons_succ, List.getElem_cons_zero]
        try simp only [Act.put, List.setIfInBounds_toArray, List.set_cons_zero, List.set_cons_succ]
        refine wpAnyH_ready (rs := [24]) (by kernel_rfl) (by simp) ?_
        refine AllReadyH.cons rfl (fun K hK => ?_) AllReadyH.nil
        go_simp
        refine (HSL.out _ _ _ (by repeat' (first | exact Below.refl _ _ | refine Below.drew ?_ | refine below_drewN' ?_ _ | refine Below.alloc ?_ (by first | exact Nat.le_refl _ | (simp; done) | (simp; omega)) _)) (alloc2_0 _ _ _) (alloc2_1 _ _ _)).mono ?_
        rintro e w5 ⟨rfl, nq5, rfl⟩
        go_wp2_with fail
        refine hK.out _ _ ?_ (fun hHeld => ?_)
        · exact HSS.out _ (by repeat' (first | exact Below.refl _ _ | refine Below.drew ?_ | refine below_drewN' ?_ _ | refine Below.alloc ?_ (by first | exact Nat.le_refl _ | (simp; done) | (simp; omega)) _))
        clear hK K
        try simp only [Act.put, List.getElem_toArray, List.getElem_cons_succ, List.getElem_cons_zero]
        try simp only [Act.put, List.setIfInBounds_toArray, List.set_cons_zero, List.set_cons_succ]
        refine wpAnyH_take (i := 25) (v := .bool false) rfl (by kernel_rfl) (by kernel_rfl) (by kernel_rfl) (fun _ _ _ h => h) (Or.inl ⟨by rfl, ?_⟩) (by assumption) ?_
        · intro w hSw; go_simp
        try simp only [Act.put, List.getElem_toArray, List.getElem_cons_succ, List.getElem_cons_zero]
        try simp only [List.setIfInBounds_toArray, List.set_cons_zero, List.set_cons_succ]
        refine wpAnyH_take (i := 26) (v := .bool false) rfl (by kernel_rfl) (by kernel_rfl) (by kernel_rfl) (fun _ _ _ h => h) (Or.inl ⟨by rfl, ?_⟩) (by assumption) ?_
        · intro w hSw; go_simp
        try simp only [Act.put, List.getElem_toArray, List.getElem_cons_succ, List.getElem_cons_zero]
        try simp only [List.setIfInBounds_toArray, List.set_cons_zero, List.set_cons_succ]
        refine wpAnyH_take (i := 27) (v := .bool false) rfl (by kernel_rfl) (by kernel_rfl) (by kernel_rfl) (fun _ _ _ h => h) (Or.inl ⟨by rfl, ?_⟩) (by assumption) ?_
        · intro w hSw; go_simp
        try simp only [Act.put, List.getElem_toArray, List.getElem_cons_succ, List.getElem_cons_zero]
        try simp only [List.setIfInBounds_toArray, List.set_cons_zero, List.set_cons_succ]
        refine wpAnyH_done (by kernel_rfl) ?_ _
        try simp only [Act.put, List.getElem_toArray, List.getElem_cons_succ, List.getElem_cons_zero]
        try simp only [Act.put, List.setIfInBounds_toArray, List.set_cons_zero, List.set_cons_succ]
        go_wp2_with fail
        go_roundw
        case rel => exact ⟨k + 1, by go_num, by omega, hb.trans ((HB3.out.trans (Below.mono (show Below W3.heap.size W3 _ from (by repeat' (first | exact Below.refl _ _ | refine Below.drew ?_ | refine below_drewN' ?_ _ | refine Below.alloc ?_ (by first | exact Nat.le_refl _ | (simp; done) | (simp; omega)) _))) hl3)).mono hszr)⟩
        case measure => simp [intOf]; omega
      ·
        go_simp
        refine hK.out _ _ ?_ (fun hHeld => ?_)
        · exact HSS.out _ (by repeat' (first | exact Below.refl _ _ | refine Below.drew ?_ | refine below_drewN' ?_ _ | refine Below.alloc ?_ (by first | exact Nat.le_refl _ | (simp; done) | (simp; omega)) _))
        clear hK K
        try simp only [Act.put, List.getElem_toArray, List.getElem_cons_succ, List.getElem_cons_zero]
        try simp only [Act.put, List.setIfInBounds_toArray, List.set_cons_zero, List.set_cons_succ]
        refine wpAnyH_ready (rs := [21]) (by kernel_rfl) (by simp) ?_
        refine AllReadyH.cons rfl (fun K hK => ?_) AllReadyH.nil
        go_simp
        refine hK.out _ _ ?_ (fun hHeld => ?_)
        · exact HSS.out _ (by repeat' (first | exact Below.refl _ _ | refine Below.drew ?_ | refine below_drewN' ?_ _ | refine Below.alloc ?_ (by first | exact Nat.le_refl _ | (simp; done) | (simp; omega)) _))
        clear hK K
        try simp only [Act.put, List.getElem_toArray, List.getElem_cons_succ, List.getElem_cons_zero]
        try simp only [Act.put, List.setIfInBounds_toArray, List.set_cons_zero, List.set_cons_succ]
        refine wpAnyH_ready (rs := [24]) (by kernel_rfl) (by simp) ?_
        refine AllReadyH.cons rfl (fun K hK => ?_) AllReadyH.nil
        go_simp
        refine (HSL.out _ _ _ (by repeat' (first | exact Below.refl _ _ | refine Below.drew ?_ | refine below_drewN' ?_ _ | refine Below.alloc ?_ (by first | exact Nat.le_refl _ | (simp; done) | (simp; omega)) _)) (alloc2_1 _ _ _) (alloc2_0 _ _ _)).mono ?_
        rintro e w5 ⟨rfl, nq5, rfl⟩
        go_wp2_with fail
        refine hK.out _ _ ?_ (fun hHeld => ?_)
        · exact HSS.out _ (by repeat' (first | exact Below.refl _ _ | refine Below.drew ?_ | refine below_drewN' ?_ _ | refine Below.alloc ?_ (by first | exact Nat.le_refl _ | (simp; done) | (simp; omega)) _))
        clear hK K
        try simp only [Act.put, List.getElem_toArray, List.getElem_cons_succ, List.getElem_cons_zero]
        try simp only [Act.put, List.setIfInBounds_toArray, List.set_cons_zero, List.set_cons_succ]
        refine wpAnyH_take (i := 25) (v := .bool false) rfl (by kernel_rfl) (by kernel_rfl) (by kernel_rfl) (fun _ _ _ h => h) (Or.inl ⟨by rfl, ?_⟩) (by assumption) ?_
        · intro w hSw; go_simp
        try simp only [Act.put, List.getElem_toArray, List.getElem_cons_succ, List.getElem_cons_zero]
        try simp only [List.setIfInBounds_toArray, List.set_cons_zero, List.set_cons_succ]
        refine wpAnyH_take (i := 26) (v := .bool false) rfl (by kernel_rfl) (by kernel_rfl) (by kernel_rfl) (fun _ _ _ h => h) (Or.inl ⟨by rfl, ?_⟩) (by assumption) ?_
        · intro w hSw; go_simp
        try simp only [Act.put, List.getElem_toArray, List.getElem_cons_succ, List.getElem_cons_zero]
        try simp only [List.setIfInBounds_toArray, List.set_cons_zero, List.set_cons_succ]
        refine wpAnyH_take (i := 27) (v := .bool false) rfl (by kernel_rfl) (by kernel_rfl) (by kernel_rfl) (fun _ _ _ h => h) (Or.inl ⟨by rfl, ?_⟩) (by assumption) ?_
        · intro w hSw; go_simp
        try simp only [Act.put, List.getElem_toArray, List.getElem_cons_succ, List.getElem_cons_zero]
        try simp only [List.setIfInBounds_toArray, List.set_cons_zero, List.set_cons_succ]
        refine wpAnyH_done (by kernel_rfl) ?_ _
        try simp only [Act.put, List.getElem_toArray, List.getElem_cons_succ, List.getElem_cons_zero]
        try simp only [Act.put, List.setIfInBounds_toArray, List.set_cons_zero, List.set_cons_succ]
        go_wp2_with fail
        go_roundw
        case rel => exact ⟨k + 1, by go_num, by omega, hb.trans ((HB3.out.trans (Below.mono (show Below W3.heap.size W3 _ from (by repeat' (first | exact Below.refl _ _ | refine Below.drew ?_ | refine below_drewN' ?_ _ | refine Below.alloc ?_ (by first | exact Nat.le_refl _ | (simp; done) | (simp; omega)) _))) hl3)).mono hszr)⟩
        case measure => simp [intOf]; omega
    · have : ¬ ((k : Int) + 1 ≤ h) := by omega
      go_wp2
      go_ret
      exact ⟨rfl, hb⟩
end Go.Proofs.YtocogcgnahbpkaaGreat
