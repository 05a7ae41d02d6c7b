/-
  raft.Node.Step of a node alone, its term the same.
-/
import Derived.Test.YtocogcgnahbpkaaGreatN13
namespace Go.Proofs.YtocogcgnahbpkaaGreat
open Go.RowKit

set_option maxRecDepth 100000 in
set_option maxHeartbeats 20000000 in
theorem Step_same (b : Nat) (s s' : NS) (c : NC) (kind draw : Int) (f : Nat) (m0 m1 m2 m3 m4 m5 m6 m7 m8 m9 k12 k13 k14 k15 : Value) (F : Nat → Prop) (log' : List E) (Q : NC → Prop) (w : World) (h : NdAt w F (fun _ => False) b s c) (hkind : (kind = 1 ∧ f = 72) ∨ (kind = 3 ∧ f = 74))
    (hsame : s'.term = s.term ∧ s'.vote = s.vote) (hsn : 0 ≤ s'.snap) (hsn2 : s'.snap ≤ 1099511627776) (hll : log'.length ≤ 65536) (hfr2 : 0 < s'.from_ → s'.snap + 1 ≤ s'.from_ ∧ s'.from_ ≤ s'.snap + log'.length + 1)
    (hms : c.msgs = [] ∧ c.mA = none ∧ c.mn = 0 ∧ c.mc = 0) (hp1 : c.peers = [s.id]) (hid : s'.id = s.id)
    (hh : ∀ (W : World) (F0 : Nat → Prop) (c0 : NC), NdAt W F0 (fun _ => False) b { s with draw := draw, from_ := 0, first := 0, last := 0 } c0 → (∃ z, c0 = { c with snR := some z, sn := [] }) → Chg F w W → (∀ i, F0 i → F i ∨ w.heap.size ≤ i) →
      Calls Tryz.prog f #[.pointer (some ⟨b, 0, none⟩), .agg #[.int .i64 kind, .int .i64 draw, m0, m1, m2, m3, m4, m5, m6, m7, m8, m9, k12, k13, k14, k15]] W fun e w' => e = .returned (.int .i64 0) ∧ ∃ F' c', Hand f Q b s s' c0 F0 (fun _ => False) log' W w' F' c') :
    Calls Tryz.prog 32 #[.pointer (some ⟨b, 0, none⟩), .agg #[.int .i64 kind, .int .i64 draw, m0, m1, m2, m3, m4, m5, m6, m7, m8, m9, k12, k13, k14, k15]] w fun e w' => ∃ F' c' A n k qs S, e = .returned (.tuple #[readyV s s' log'.length A n k, .int .i64 0]) ∧ Stepped w w' F b s' c log' Q F' c' A n k qs S := by
  have HSM := Lib.hid hsame
  clear hsame
  have hlt := h.lt
  have hw1 : decide (1 ≤ kind ∧ kind ≤ 7) = true := by simp; omega
  have HK := Lib.hid hkind
  have hk0 : 0 ≤ kind := by omega
  have hk8 : kind < 8 := by omega
  clear hkind
  go_enter Tryz.func32, Tryz.ntmps32
  go_wp2_with (fail)
  have hb0 : Below w.heap.size w ((w.alloc (.cells #[.int .i64 kind, .int .i64 draw, m0, m1, m2, m3, m4, m5, m6, m7, m8, m9, k12, k13, k14, k15] 61)).alloc (.cells #[.int .i64 0, .int .i64 0, .bool false, .int .i64 0, .slice none 0 0, .slice none 0 0, .int .i64 0, .slice none 0 0, .int .i64 0, .int .i64 0, .int .i64 0, .int .i64 0] 80)) := (below_alloc1 w _).alloc (by simp) _
  have he0 : ((w.alloc (.cells #[.int .i64 kind, .int .i64 draw, m0, m1, m2, m3, m4, m5, m6, m7, m8, m9, k12, k13, k14, k15] 61)).alloc (.cells #[.int .i64 0, .int .i64 0, .bool false, .int .i64 0, .slice none 0 0, .slice none 0 0, .int .i64 0, .slice none 0 0, .int .i64 0, .int .i64 0, .int .i64 0, .int .i64 0] 80)).heap[w.heap.size]? = some (.cells #[.int .i64 kind, .int .i64 draw, m0, m1, m2, m3, m4, m5, m6, m7, m8, m9, k12, k13, k14, k15] 61 (0, 0)) := block_alloc (World.alloc_at w _) _
  have hr0 : ((w.alloc (.cells #[.int .i64 kind, .int .i64 draw, m0, m1, m2, m3, m4, m5, m6, m7, m8, m9, k12, k13, k14, k15] 61)).alloc (.cells #[.int .i64 0, .int .i64 0, .bool false, .int .i64 0, .slice none 0 0, .slice none 0 0, .int .i64 0, .slice none 0 0, .int .i64 0, .int .i64 0, .int .i64 0, .int .i64 0] 80)).heap[w.heap.size + 1]? = some (.cells #[.int .i64 0, .int .i64 0, .bool false, .int .i64 0, .slice none 0 0, .slice none 0 0, .int .i64 0, .slice none 0 0, .int .i64 0, .int .i64 0, .int .i64 0, .int .i64 0] 80 (0, 0)) := by
    have := World.alloc_at (w.alloc (.cells #[.int .i64 kind, .int .i64 draw, m0, m1, m2, m3, m4, m5, m6, m7, m8, m9, k12, k13, k14, k15] 61)) (.cells #[.int .i64 0, .int .i64 0, .bool false, .int .i64 0, .slice none 0 0, .slice none 0 0, .int .i64 0, .slice none 0 0, .int .i64 0, .int .i64 0, .int .i64 0, .int .i64 0] 80)
    rwa [World.alloc_size] at this
  have hz0 : ((w.alloc (.cells #[.int .i64 kind, .int .i64 draw, m0, m1, m2, m3, m4, m5, m6, m7, m8, m9, k12, k13, k14, k15] 61)).alloc (.cells #[.int .i64 0, .int .i64 0, .bool false, .int .i64 0, .slice none 0 0, .slice none 0 0, .int .i64 0, .slice none 0 0, .int .i64 0, .int .i64 0, .int .i64 0, .int .i64 0] 80)).heap.size = w.heap.size + 2 := by simp
  generalize (w.alloc (.cells #[.int .i64 kind, .int .i64 draw, m0, m1, m2, m3, m4, m5, m6, m7, m8, m9, k12, k13, k14, k15] 61)).alloc (.cells #[.int .i64 0, .int .i64 0, .bool false, .int .i64 0, .slice none 0 0, .slice none 0 0, .int .i64 0, .slice none 0 0, .int .i64 0, .int .i64 0, .int .i64 0, .int .i64 0] 80) = W0 at hb0 he0 hr0 hz0 ⊢
  have HN0 := Lib.hid (h.below hb0)
  have HE0 := Lib.hid he0
  have HR0 := Lib.hid hr0
  have HZ0 := Lib.hid hz0
  have hF := Lib.hid (show ∀ i, F i → i < w.heap.size from h.rest.bdF)
  obtain ⟨z, hz⟩ : ∃ z, z = w.heap.size := ⟨_, rfl⟩
  rw [← hz] at hb0 HE0 HR0 HZ0 hF
  rw [← hz]
  have HZ := Lib.hid hz
  clear h he0 hr0 hz0 hz hlt
  have ek : W0.cell? ⟨z, 0, none⟩ = some (.int .i64 kind) := cell_block HE0.out 0 _ rfl
  have m1 : z < W0.heap.size := by have := HZ0.out; omega
  have hw7 : IntKind.i64.wrap 7 = 7 := by decide
  have hk1 : decide (1 ≤ kind) = true := by have := HK.out; simp; omega
  have hk7 : decide (kind ≤ 7) = true := by have := HK.out; simp; omega
  go_region_held3 (fun w' => w'.cell? ⟨z, 0, none⟩ = some (.int .i64 kind)) (first | go_keep | (go_split_ands; exact ((bcell hb1).1 _ _ m1).trans ek))
    (first
      | (go_at_call 56; refine (steps_any _).mono ?_; rintro e w1 ⟨rfl, rfl⟩)
      | (go_at_call 55; refine (within_any _ _ _ _).mono ?_; rintro e w1 ⟨rfl, rfl⟩))
  clear hw7 hk1 hk7 ek hw1
  have hb1 : Below W0.heap.size W0 (W0.alloc (.cells actCells 129)).drew := (below_alloc1 W0 _).drew
  have hz1 : (W0.alloc (.cells actCells 129)).drew.heap.size = z + 3 := by show (W0.alloc _).heap.size = _; rw [World.alloc_size, HZ0.out]
  generalize (W0.alloc (.cells actCells 129)).drew = W1 at hb1 hz1 ⊢
  have HN1 := Lib.hid (HN0.out.below hb1)
  have HE1 := Lib.hid ((hb1.block z m1).trans HE0.out)
  have HR1 := Lib.hid ((hb1.block (z + 1) (block_lt HR0.out)).trans HR0.out)
  have hbb1 : Below z w W1 := by have := hb0.size; exact hb0.trans (hb1.mono (by omega))
  have HZ1 := Lib.hid hz1
  clear HN0 HE0 HR0 HZ0 hb0 hb1 hz1 m1
  have hB := HN1.out.blk
  have c6 := nc6 hB
  have c7 := nc7 hB
  have hlb : b < W1.heap.size := HN1.out.lt
  have e1 : W1.cell? ⟨z, 1, none⟩ = some (.int .i64 draw) := cell_block HE1.out 1 _ rfl
  have hlz : z < W1.heap.size := block_lt HE1.out
  clear hB
  go_wp2_with (fail)
  rw [run_makeMap, World.alloc_size, HZ1.out]
  have hb2 : Below W1.heap.size W1 ((W1.alloc (.cells #[.int .i64 s.term, .int .i64 s.vote] 45)).alloc (.map #[] 0)) := (below_alloc1 W1 _).alloc (by simp) _
  have hm2 : MB ((W1.alloc (.cells #[.int .i64 s.term, .int .i64 s.vote] 45)).alloc (.map #[] 0)) (z + 3 + 1) [] := by
    have := MapG.made (P := Tryz.prog) (k := 3) (kenc := Value.int .i64) (venc := fun _ : Unit => Value.bool true) (W1.alloc (.cells #[.int .i64 s.term, .int .i64 s.vote] 45))
    rwa [World.alloc_size, HZ1.out] at this
  have hh2 : ((W1.alloc (.cells #[.int .i64 s.term, .int .i64 s.vote] 45)).alloc (.map #[] 0)).heap[z + 3]? = some (.cells #[.int .i64 s.term, .int .i64 s.vote] 45 (0, 0)) := by
    rw [← HZ1.out]; exact block_alloc (World.alloc_at W1 _) _
  have hz2 : ((W1.alloc (.cells #[.int .i64 s.term, .int .i64 s.vote] 45)).alloc (.map #[] 0)).heap.size = z + 5 := by rw [World.alloc_size, World.alloc_size, HZ1.out]
  generalize (W1.alloc (.cells #[.int .i64 s.term, .int .i64 s.vote] 45)).alloc (.map #[] 0) = W2 at hb2 hm2 hh2 hz2 ⊢
  have HN2 := Lib.hid (HN1.out.below hb2)
  have HN2' := Lib.hid (step_maps (draw := draw) HN1.out hb2 (by have := HZ1.out; omega) hm2 hms)
  have HE2 := Lib.hid ((hb2.block z hlz).trans HE1.out)
  have HR2 := Lib.hid ((hb2.block (z + 1) (block_lt HR1.out)).trans HR1.out)
  have HH2 := Lib.hid hh2
  have hbb2 : Below z w W2 := by have := HZ1.out; exact hbb1.trans (hb2.mono (by omega))
  have HZ2 := Lib.hid hz2
  clear c6 c7 hlb e1 hlz HN1 HE1 HR1 hbb1 HZ1 hb2 hm2 hh2 hz2
  have hB := HN2.out.blk
  have c23 := nc23 hB
  have c24 := nc24 hB
  have c25 := nc25 hB
  have c26 := nc26 hB
  have c27 := nc27 hB
  have c28 := nc28 hB
  have hf := frozen_block hB
  clear hB
  go_upto_region 5 with (fail)
  have hbF : b < z := hF.out b HN2.out.hb
  have hot : ∀ i, i ≠ b → ((((((W2.setCell ⟨b, 23, none⟩ (.int .i64 draw)).setCell ⟨b, 24, none⟩ (.slice none 0 0)).setCell ⟨b, 25, none⟩ (.map (some (z + 3 + 1)))).setCell ⟨b, 26, none⟩ (.int .i64 0)).setCell ⟨b, 27, none⟩ (.int .i64 0)).setCell ⟨b, 28, none⟩ (.int .i64 0)).heap[i]? = W2.heap[i]? := fun i hi => by
    rw [Below.heap_setCell _ _ _ _ hi, Below.heap_setCell _ _ _ _ hi, Below.heap_setCell _ _ _ _ hi, Below.heap_setCell _ _ _ _ hi, Below.heap_setCell _ _ _ _ hi, Below.heap_setCell _ _ _ _ hi]
  have HE3 := Lib.hid ((hot z (by omega)).trans HE2.out)
  have HR3 := Lib.hid ((hot (z + 1) (by omega)).trans HR2.out)
  have HH3 := Lib.hid ((hot (z + 3) (by omega)).trans HH2.out)
  have hC3 : Chg F w ((((((W2.setCell ⟨b, 23, none⟩ (.int .i64 draw)).setCell ⟨b, 24, none⟩ (.slice none 0 0)).setCell ⟨b, 25, none⟩ (.map (some (z + 3 + 1)))).setCell ⟨b, 26, none⟩ (.int .i64 0)).setCell ⟨b, 27, none⟩ (.int .i64 0)).setCell ⟨b, 28, none⟩ (.int .i64 0)) := by
    have hbb : Chg F w W2 := Chg.ofBelow (by rw [← HZ.out]; exact hbb2)
    exact chgF (chgF (chgF (chgF (chgF (chgF hbb HN2.out.hb _) HN2.out.hb _) HN2.out.hb _) HN2.out.hb _) HN2.out.hb _) HN2.out.hb _
  have hz3 : ((((((W2.setCell ⟨b, 23, none⟩ (.int .i64 draw)).setCell ⟨b, 24, none⟩ (.slice none 0 0)).setCell ⟨b, 25, none⟩ (.map (some (z + 3 + 1)))).setCell ⟨b, 26, none⟩ (.int .i64 0)).setCell ⟨b, 27, none⟩ (.int .i64 0)).setCell ⟨b, 28, none⟩ (.int .i64 0)).heap.size = z + 5 := by simp only [World.setCell, Array.size_modify]; exact HZ2.out
  clear hot HE2 HR2 HH2 hbb2 HZ2 HN2 c23 c24 c25 c26 c27 c28 hf
  have HN3 := HN2'
  clear HN2'
  generalize (((((W2.setCell ⟨b, 23, none⟩ (.int .i64 draw)).setCell ⟨b, 24, none⟩ (.slice none 0 0)).setCell ⟨b, 25, none⟩ (.map (some (z + 3 + 1)))).setCell ⟨b, 26, none⟩ (.int .i64 0)).setCell ⟨b, 27, none⟩ (.int .i64 0)).setCell ⟨b, 28, none⟩ (.int .i64 0) = W3 at HN3 HE3 HR3 HH3 hC3 hz3 ⊢
  have HZ3 := Lib.hid hz3
  clear hz3
  obtain ⟨c0, hc0⟩ : ∃ c0 : NC, c0 = { c with snR := some (z + 3 + 1), sn := [] } := ⟨_, rfl⟩
  obtain ⟨F0, hF0⟩ : ∃ F0 : Nat → Prop, F0 = fun i => F i ∨ i = z + 3 + 1 := ⟨_, rfl⟩
  rw [← hc0, ← hF0] at HN3
  have HC0 := Lib.hid hc0
  have HF0 := Lib.hid hF0
  have HHc := Lib.hid (hh (W3.alloc (.cells actCells 129)).drew F0 c0 (HN3.out.below (below_alloc1 W3 _).drew) ⟨_, hc0⟩ (hC3.alloc _).drew (fun i hi => by
    rw [hF0] at hi
    rcases hi with hi | hi
    · exact .inl hi
    · right
      have := HZ.out
      omega))
  clear hc0 hF0 hh
  go_cut [7] (fun v wx => v = .int .i64 0 ∧ Hid (∃ F' c', Hand f Q b s s' c0 F0 (fun _ => False) log' W3 wx F' c'))
  case first =>
    obtain ⟨e0, e1, e2, e3, e4, e5, e6, e7, e8, e9, e10, e11, e12, e13, e14, e15⟩ := cells16 HE3.out
    have hlz : z < W3.heap.size := by have := HZ3.out; omega
    have HFI := Lib.hid (fun F' c' wx (h : Hand f Q b s s' c0 F0 (fun _ => False) log' (W3.alloc (.cells actCells 129)).drew wx F' c') => h.from (W0 := W3) ((Chg.refl (F := F0)).alloc _).drew)
    have HZF := Lib.hid (show ¬ F0 z from fun h => by rw [HF0.out] at h; rcases h with h | h; have := hF.out z h; omega; omega)
    rcases HK.out with ⟨rfl, rfl⟩ | ⟨rfl, rfl⟩
    · have ha : (W3.alloc (.cells actCells 129)).cell? ⟨W3.heap.size, 1, none⟩ = some (.func (.func 72) #[] #[]) := cell_block (World.alloc_at W3 _) 1 _ rfl
      refine wp_region_held_drew (S := fun w' => w'.cell? ⟨z, 0, none⟩ = some (.int .i64 1) ∧ w'.cell? ⟨z, 1, none⟩ = some (.int .i64 draw) ∧ w'.cell? ⟨z, 2, none⟩ = some m0 ∧ w'.cell? ⟨z, 3, none⟩ = some m1 ∧ w'.cell? ⟨z, 4, none⟩ = some m2 ∧ w'.cell? ⟨z, 5, none⟩ = some m3 ∧ w'.cell? ⟨z, 6, none⟩ = some m4 ∧ w'.cell? ⟨z, 7, none⟩ = some m5 ∧ w'.cell? ⟨z, 8, none⟩ = some m6 ∧ w'.cell? ⟨z, 9, none⟩ = some m7 ∧ w'.cell? ⟨z, 10, none⟩ = some m8 ∧ w'.cell? ⟨z, 11, none⟩ = some m9 ∧ w'.cell? ⟨z, 12, none⟩ = some k12 ∧ w'.cell? ⟨z, 13, none⟩ = some k13 ∧ w'.cell? ⟨z, 14, none⟩ = some k14 ∧ w'.cell? ⟨z, 15, none⟩ = some k15) (by kernel_rfl) ⟨e0 , e1 , e2 , e3 , e4 , e5 , e6 , e7 , e8 , e9 , e10 , e11 , e12 , e13 , e14 , e15⟩ (fun hHeld => ?_)
      refine wpAnyH_take (i := 1) (v := .pointer (some ⟨z, 0, none⟩)) rfl (by kernel_rfl) (by kernel_rfl) (by kernel_rfl) (fun _ _ _ h => h) (Or.inl ⟨by rfl, ?_⟩) (by assumption) ?_
      · intro w hSw; go_simp
      try simp only [Act.put, List.getElem_toArray, List.getElem_cons_succ, List.getElem_cons_zero]
      try simp only [List.setIfInBounds_toArray, List.set_cons_zero, List.set_cons_succ]
      refine wpAnyH_take (i := 2) (v := .int .i64 1) rfl (by kernel_rfl) (by kernel_rfl) (by kernel_rfl) (fun _ _ _ h => h) (Or.inl ⟨by rfl, ?_⟩) (by assumption) ?_
      · intro w hSw; go_simp
      try simp only [Act.put, List.getElem_toArray, List.getElem_cons_succ, List.getElem_cons_zero]
      try simp only [List.setIfInBounds_toArray, List.set_cons_zero, List.set_cons_succ]
      refine wpAnyH_take (i := 6) (v := .pointer (some ⟨b, 0, none⟩)) rfl (by kernel_rfl) (by kernel_rfl) (by kernel_rfl) (fun _ _ _ h => h) (Or.inl ⟨by rfl, ?_⟩) (by assumption) ?_
      · intro w hSw; go_simp
      try simp only [Act.put, List.getElem_toArray, List.getElem_cons_succ, List.getElem_cons_zero]
      try simp only [List.setIfInBounds_toArray, List.set_cons_zero, List.set_cons_succ]
      refine wpAnyH_take (i := 7) (v := .agg #[(.int .i64 1), (.int .i64 draw), m0, m1, m2, m3, m4, m5, m6, m7, m8, m9, k12, k13, k14, k15]) rfl (by kernel_rfl) (by kernel_rfl) (by kernel_rfl) (fun _ _ _ h => h) (Or.inl ⟨by rfl, ?_⟩) (by assumption) ?_
      · intro w hSw; go_simp
      try simp only [Act.put, List.getElem_toArray, List.getElem_cons_succ, List.getElem_cons_zero]
      try simp only [List.setIfInBounds_toArray, List.set_cons_zero, List.set_cons_succ]
      refine wpAnyH_ready (rs := [0]) (by kernel_rfl) (by simp) ?_
      refine AllReadyH.cons rfl (fun K hK => ?_) AllReadyH.nil
      go_simp
      refine (steps_any _).mono ?_
      rintro e w4 ⟨rfl, rfl⟩
      go_wp2_with fail
      refine hK.out _ _ ?_ (fun hHeld => ?_)
      · go_keep
      clear hK K
      refine wpAnyH_take (i := 3) (v := .pointer (some ⟨W3.heap.size, 1, none⟩)) rfl (by kernel_rfl) (by kernel_rfl) (by kernel_rfl) (fun _ _ _ h => h) (Or.inl ⟨by rfl, ?_⟩) (by assumption) ?_
      · intro w hSw; go_simp
      try simp only [Act.put, List.getElem_toArray, List.getElem_cons_succ, List.getElem_cons_zero]
      try simp only [List.setIfInBounds_toArray, List.set_cons_zero, List.set_cons_succ]
      refine wpAnyH_take (i := 4) (v := .pointer (some ⟨W3.heap.size, 1, none⟩)) rfl (by kernel_rfl) (by kernel_rfl) (by kernel_rfl) (fun _ _ _ h => h) (Or.inl ⟨by rfl, ?_⟩) (by assumption) ?_
      · intro w hSw; go_simp
      try simp only [Act.put, List.getElem_toArray, List.getElem_cons_succ, List.getElem_cons_zero]
      try simp only [List.setIfInBounds_toArray, List.set_cons_zero, List.set_cons_succ]
      refine wpAnyH_ready (rs := [5]) (by kernel_rfl) (by simp) ?_
      refine AllReadyH.cons rfl (fun K hK => ?_) AllReadyH.nil
      go_simp
      refine hK.out _ _ ?_ (fun hHeld => ?_)
      · assumption
      clear hK K
      try simp only [Act.put, List.setIfInBounds_toArray, List.set_cons_zero, List.set_cons_succ]
      refine wpAnyH_ready (rs := [8]) (by kernel_rfl) (by simp) ?_
      refine AllReadyH.cons rfl (fun K hK => ?_) AllReadyH.nil
      go_simp
      refine HHc.out.mono ?_
      rintro e w5 ⟨rfl, F5, c5, hH5⟩
      have hE5 := cells16 ((hH5.chg.keep (by show z < (W3.alloc _).heap.size; rw [World.alloc_size]; omega) HZF.out).trans (block_alloc HE3.out _))
      have HH5 := Lib.hid hH5
      clear hH5
      go_wp2_with fail
      refine hK.out _ _ ?_ (fun hHeld => ?_)
      · exact hE5
      clear hK K
      try simp only [Act.put, List.getElem_toArray, List.getElem_cons_succ, List.getElem_cons_zero]
      try simp only [Act.put, List.setIfInBounds_toArray, List.set_cons_zero, List.set_cons_succ]
      refine wpAnyH_take (i := 9) (v := .int .i64 0) rfl (by kernel_rfl) (by kernel_rfl) (by kernel_rfl) (fun _ _ _ h => h) (Or.inl ⟨by rfl, ?_⟩) (by assumption) ?_
      · intro w hSw; go_simp
      try simp only [Act.put, List.getElem_toArray, List.getElem_cons_succ, List.getElem_cons_zero]
      try simp only [List.setIfInBounds_toArray, List.set_cons_zero, List.set_cons_succ]
      refine wpAnyH_done (by kernel_rfl) ?_ _
      try simp only [Act.put, List.getElem_toArray, List.getElem_cons_succ, List.getElem_cons_zero]
      try simp only [Act.put, List.setIfInBounds_toArray, List.set_cons_zero, List.set_cons_succ]
      go_wp2_with fail
      go_meet
      exact ⟨rfl, Lib.hid ⟨F5, c5, HFI.out _ _ _ HH5.out⟩⟩
    · have ha : (W3.alloc (.cells actCells 129)).cell? ⟨W3.heap.size, 3, none⟩ = some (.func (.func 74) #[] #[]) := cell_block (World.alloc_at W3 _) 3 _ rfl
      refine wp_region_held_drew (S := fun w' => w'.cell? ⟨z, 0, none⟩ = some (.int .i64 3) ∧ w'.cell? ⟨z, 1, none⟩ = some (.int .i64 draw) ∧ w'.cell? ⟨z, 2, none⟩ = some m0 ∧ w'.cell? ⟨z, 3, none⟩ = some m1 ∧ w'.cell? ⟨z, 4, none⟩ = some m2 ∧ w'.cell? ⟨z, 5, none⟩ = some m3 ∧ w'.cell? ⟨z, 6, none⟩ = some m4 ∧ w'.cell? ⟨z, 7, none⟩ = some m5 ∧ w'.cell? ⟨z, 8, none⟩ = some m6 ∧ w'.cell? ⟨z, 9, none⟩ = some m7 ∧ w'.cell? ⟨z, 10, none⟩ = some m8 ∧ w'.cell? ⟨z, 11, none⟩ = some m9 ∧ w'.cell? ⟨z, 12, none⟩ = some k12 ∧ w'.cell? ⟨z, 13, none⟩ = some k13 ∧ w'.cell? ⟨z, 14, none⟩ = some k14 ∧ w'.cell? ⟨z, 15, none⟩ = some k15) (by kernel_rfl) ⟨e0 , e1 , e2 , e3 , e4 , e5 , e6 , e7 , e8 , e9 , e10 , e11 , e12 , e13 , e14 , e15⟩ (fun hHeld => ?_)
      refine wpAnyH_take (i := 1) (v := .pointer (some ⟨z, 0, none⟩)) rfl (by kernel_rfl) (by kernel_rfl) (by kernel_rfl) (fun _ _ _ h => h) (Or.inl ⟨by rfl, ?_⟩) (by assumption) ?_
      · intro w hSw; go_simp
      try simp only [Act.put, List.getElem_toArray, List.getElem_cons_succ, List.getElem_cons_zero]
      try simp only [List.setIfInBounds_toArray, List.set_cons_zero, List.set_cons_succ]
      refine wpAnyH_take (i := 2) (v := .int .i64 3) rfl (by kernel_rfl) (by kernel_rfl) (by kernel_rfl) (fun _ _ _ h => h) (Or.inl ⟨by rfl, ?_⟩) (by assumption) ?_
      · intro w hSw; go_simp
      try simp only [Act.put, List.getElem_toArray, List.getElem_cons_succ, List.getElem_cons_zero]
      try simp only [List.setIfInBounds_toArray, List.set_cons_zero, List.set_cons_succ]
      refine wpAnyH_take (i := 6) (v := .pointer (some ⟨b, 0, none⟩)) rfl (by kernel_rfl) (by kernel_rfl) (by kernel_rfl) (fun _ _ _ h => h) (Or.inl ⟨by rfl, ?_⟩) (by assumption) ?_
      · intro w hSw; go_simp
      try simp only [Act.put, List.getElem_toArray, List.getElem_cons_succ, List.getElem_cons_zero]
      try simp only [List.setIfInBounds_toArray, List.set_cons_zero, List.set_cons_succ]
      refine wpAnyH_take (i := 7) (v := .agg #[(.int .i64 3), (.int .i64 draw), m0, m1, m2, m3, m4, m5, m6, m7, m8, m9, k12, k13, k14, k15]) rfl (by kernel_rfl) (by kernel_rfl) (by kernel_rfl) (fun _ _ _ h => h) (Or.inl ⟨by rfl, ?_⟩) (by assumption) ?_
      · intro w hSw; go_simp
      try simp only [Act.put, List.getElem_toArray, List.getElem_cons_succ, List.getElem_cons_zero]
      try simp only [List.setIfInBounds_toArray, List.set_cons_zero, List.set_cons_succ]
      refine wpAnyH_ready (rs := [0]) (by kernel_rfl) (by simp) ?_
      refine AllReadyH.cons rfl (fun K hK => ?_) AllReadyH.nil
      go_simp
      refine (steps_any _).mono ?_
      rintro e w4 ⟨rfl, rfl⟩
      go_wp2_with fail
      refine hK.out _ _ ?_ (fun hHeld => ?_)
      · go_keep
      clear hK K
      refine wpAnyH_take (i := 3) (v := .pointer (some ⟨W3.heap.size, 3, none⟩)) rfl (by kernel_rfl) (by kernel_rfl) (by kernel_rfl) (fun _ _ _ h => h) (Or.inl ⟨by rfl, ?_⟩) (by assumption) ?_
      · intro w hSw; go_simp
      try simp only [Act.put, List.getElem_toArray, List.getElem_cons_succ, List.getElem_cons_zero]
      try simp only [List.setIfInBounds_toArray, List.set_cons_zero, List.set_cons_succ]
      refine wpAnyH_take (i := 4) (v := .pointer (some ⟨W3.heap.size, 3, none⟩)) rfl (by kernel_rfl) (by kernel_rfl) (by kernel_rfl) (fun _ _ _ h => h) (Or.inl ⟨by rfl, ?_⟩) (by assumption) ?_
      · intro w hSw; go_simp
      try simp only [Act.put, List.getElem_toArray, List.getElem_cons_succ, List.getElem_cons_zero]
      try simp only [List.setIfInBounds_toArray, List.set_cons_zero, List.set_cons_succ]
      refine wpAnyH_ready (rs := [5]) (by kernel_rfl) (by simp) ?_
      refine AllReadyH.cons rfl (fun K hK => ?_) AllReadyH.nil
      go_simp
      refine hK.out _ _ ?_ (fun hHeld => ?_)
      · assumption
      clear hK K
      try simp only [Act.put, List.setIfInBounds_toArray, List.set_cons_zero, List.set_cons_succ]
      refine wpAnyH_ready (rs := [8]) (by kernel_rfl) (by simp) ?_
      refine AllReadyH.cons rfl (fun K hK => ?_) AllReadyH.nil
      go_simp
      refine HHc.out.mono ?_
      rintro e w5 ⟨rfl, F5, c5, hH5⟩
      have hE5 := cells16 ((hH5.chg.keep (by show z < (W3.alloc _).heap.size; rw [World.alloc_size]; omega) HZF.out).trans (block_alloc HE3.out _))
      have HH5 := Lib.hid hH5
      clear hH5
      go_wp2_with fail
      refine hK.out _ _ ?_ (fun hHeld => ?_)
      · exact hE5
      clear hK K
      try simp only [Act.put, List.getElem_toArray, List.getElem_cons_succ, List.getElem_cons_zero]
      try simp only [Act.put, List.setIfInBounds_toArray, List.set_cons_zero, List.set_cons_succ]
      refine wpAnyH_take (i := 9) (v := .int .i64 0) rfl (by kernel_rfl) (by kernel_rfl) (by kernel_rfl) (fun _ _ _ h => h) (Or.inl ⟨by rfl, ?_⟩) (by assumption) ?_
      · intro w hSw; go_simp
      try simp only [Act.put, List.getElem_toArray, List.getElem_cons_succ, List.getElem_cons_zero]
      try simp only [List.setIfInBounds_toArray, List.set_cons_zero, List.set_cons_succ]
      refine wpAnyH_done (by kernel_rfl) ?_ _
      try simp only [Act.put, List.getElem_toArray, List.getElem_cons_succ, List.getElem_cons_zero]
      try simp only [Act.put, List.setIfInBounds_toArray, List.set_cons_zero, List.set_cons_succ]
      go_wp2_with fail
      go_meet
      exact ⟨rfl, Lib.hid ⟨F5, c5, HFI.out _ _ _ HH5.out⟩⟩
  case rest =>
    obtain ⟨rfl, hHh⟩ := hcut
    obtain ⟨F', c', hH⟩ := hHh.out
    clear hHh
    have hF0 := HF0.out
    have hout : ∀ i, z ≤ i → i < z + 4 → ¬ F0 i := fun i h1 h2 h => by
      rw [hF0] at h
      rcases h with h | h
      · have := hF.out i h; omega
      · omega
    have hz3 := HZ3.out
    have HR4 := Lib.hid ((hH.chg.keep (i := z + 1) (by omega) (hout _ (by omega) (by omega))).trans HR3.out)
    have HH4 := Lib.hid ((hH.chg.keep (i := z + 3) (by omega) (hout _ (by omega) (by omega))).trans HH3.out)
    have HZ4 := Lib.hid (show z + 5 ≤ wc.heap.size by have := hH.chg.size; omega)
    have HHA := Lib.hid hH
    clear hF0 hout hz3 HR3 HH3 HE3 hH
    have hB := HHA.out.nd.blk
    have hlen : c'.log.length = log'.length := by simpa using congrArg List.length HHA.out.log
    have hln : c'.ln = c'.log.length := HHA.out.nd.rest.log.ents.2.1
    have HLL := Lib.hid (And.intro hln hlen)
    have q1 : -4611686018427387904 ≤ s'.snap := by omega
    have q2 : s'.snap ≤ 4611686018427387904 := by omega
    have q3 : c'.ln ≤ 4611686018427387 := by omega
    have HEE := Lib.hid (show ∀ W : World, W.heap[b]? = wc.heap[b]? → Calls Tryz.prog 57 #[.pointer (some ⟨b, 0, none⟩)] W fun e w' => e = .returned (.int .i64 (s'.snap + c'.ln)) ∧ ∃ n, w' = W.drewN n from fun W hW => end_any b s' c' W (hW.trans HHA.out.nd.blk) q1 q2 q3)
    have HB := Lib.hid hB
    obtain ⟨y, hy⟩ : ∃ y, y = wc.heap.size := ⟨_, rfl⟩
    have HY := Lib.hid hy
    clear hlen hln hB hy
    go_upto_region 8 with (fail)
    go_cut [8] (fun v wx => v = .pointer (some ⟨y, 0, none⟩) ∧ Hid (wx.heap[y]? = some (.cells #[.int .i64 s'.term, .int .i64 s'.vote, .bool (decide (s'.term ≠ s.term ∨ 0 < s'.from_)), .int .i64 (s'.snap + c'.ln + 1), .slice none 0 0, .slice c'.mA c'.mn c'.mc, .int .i64 s'.commit, .slice none 0 0, .int .i64 s'.role, .int .i64 s'.leader, .int .i64 s'.first, .int .i64 s'.last] 80 (0, 0)) ∧ Below y wc wx ∧ wx.heap.size = y + 1))
    case first =>
      have hB := HB.out
      have S0 : (fun w' => w'.cell? ⟨b, 6, none⟩ = some (.int .i64 s'.term) ∧ w'.cell? ⟨b, 7, none⟩ = some (.int .i64 s'.vote) ∧ w'.cell? ⟨b, 26, none⟩ = some (.int .i64 s'.from_) ∧ w'.cell? ⟨b, 24, none⟩ = some (.slice c'.mA c'.mn c'.mc) ∧ w'.cell? ⟨b, 11, none⟩ = some (.int .i64 s'.commit) ∧ w'.cell? ⟨b, 12, none⟩ = some (.int .i64 s'.role) ∧ w'.cell? ⟨b, 13, none⟩ = some (.int .i64 s'.leader) ∧ w'.cell? ⟨b, 27, none⟩ = some (.int .i64 s'.first) ∧ w'.cell? ⟨b, 28, none⟩ = some (.int .i64 s'.last) ∧ w'.cell? ⟨z + 3, 0, none⟩ = some (.int .i64 s.term) ∧ w'.cell? ⟨z + 3, 1, none⟩ = some (.int .i64 s.vote)) wc := ⟨nc6 hB, nc7 hB, nc26 hB, nc24 hB, nc11 hB, nc12 hB, nc13 hB, nc27 hB, nc28 hB, cell_block HH4.out 0 _ rfl, cell_block HH4.out 1 _ rfl⟩
      obtain ⟨t0, t1, t2, t3, t4, t5, t6, t7, t8, t9, t10⟩ := S0
      have hly : b < wc.heap.size := block_lt hB
      have hlz3 : z + 3 < wc.heap.size := block_lt HH4.out
      have W1 : IntKind.i64.wrap (s'.snap + (c'.ln : Int) + 1) = s'.snap + (c'.ln : Int) + 1 := IntWalk.i64_in _ (by have := HLL.out; omega)
      clear hB
      have ht : s'.term = s.term := HSM.out.1
      have hv : s'.vote = s.vote := HSM.out.2
      have htb : (s'.term == s.term) = true := by simpa using ht
      have hvb : (s'.vote == s.vote) = true := by simpa using hv
      obtain ⟨fl, hfl⟩ : ∃ fl : Bool, decide (0 < s'.from_) = fl := ⟨_, rfl⟩
      rw [ht] at t0
      rw [hv] at t1
      have HT := Lib.hid ht
      have HV := Lib.hid hv
      clear ht hv htb hvb
      refine wp_region_held_drew (S := fun w' => w'.cell? ⟨b, 6, none⟩ = some (.int .i64 s.term) ∧ w'.cell? ⟨b, 7, none⟩ = some (.int .i64 s.vote) ∧ w'.cell? ⟨b, 26, none⟩ = some (.int .i64 s'.from_) ∧ w'.cell? ⟨b, 24, none⟩ = some (.slice c'.mA c'.mn c'.mc) ∧ w'.cell? ⟨b, 11, none⟩ = some (.int .i64 s'.commit) ∧ w'.cell? ⟨b, 12, none⟩ = some (.int .i64 s'.role) ∧ w'.cell? ⟨b, 13, none⟩ = some (.int .i64 s'.leader) ∧ w'.cell? ⟨b, 27, none⟩ = some (.int .i64 s'.first) ∧ w'.cell? ⟨b, 28, none⟩ = some (.int .i64 s'.last) ∧ w'.cell? ⟨z + 3, 0, none⟩ = some (.int .i64 s.term) ∧ w'.cell? ⟨z + 3, 1, none⟩ = some (.int .i64 s.vote)) (by kernel_rfl) ⟨t0, t1, t2, t3, t4, t5, t6, t7, t8, t9, t10⟩ (fun hHeld => ?_)
      refine wpAnyH_take (i := 0) (v := .pointer (some ⟨b, 0, none⟩)) rfl (by kernel_rfl) (by kernel_rfl) (by kernel_rfl) (fun _ _ _ h => h) (Or.inl ⟨by rfl, ?_⟩) (by assumption) ?_
      · intro w hSw; go_simp
      try simp only [Act.put, List.getElem_toArray, List.getElem_cons_zero]
      try simp only [List.setIfInBounds_toArray, List.set_cons_zero, List.set_cons_succ]
      refine wpAnyH_take (i := 1) (v := .pointer (some ⟨b, 0, none⟩)) rfl (by kernel_rfl) (by kernel_rfl) (by kernel_rfl) (fun _ _ _ h => h) (Or.inl ⟨by rfl, ?_⟩) (by assumption) ?_
      · intro w hSw; go_simp
      try simp only [Act.put, List.getElem_toArray, List.getElem_cons_succ, List.getElem_cons_zero]
      try simp only [List.setIfInBounds_toArray, List.set_cons_zero, List.set_cons_succ]
      refine wpAnyH_take (i := 2) (v := .pointer (some ⟨b, 6, none⟩)) rfl (by kernel_rfl) (by kernel_rfl) (by kernel_rfl) (fun _ _ _ h => h) (Or.inl ⟨by rfl, ?_⟩) (by assumption) ?_
      · intro w hSw; go_simp
      try simp only [Act.put, List.getElem_toArray, List.getElem_cons_succ, List.getElem_cons_zero]
      try simp only [List.setIfInBounds_toArray, List.set_cons_zero, List.set_cons_succ]
      refine wpAnyH_take (i := 3) (v := .agg #[.int .i64 s.term, .int .i64 s.vote]) rfl (by kernel_rfl) (by kernel_rfl) (by kernel_rfl) (fun _ _ _ h => h) (Or.inl ⟨by rfl, ?_⟩) (by assumption) ?_
      · intro w hSw; go_simp
      try simp only [Act.put, List.getElem_toArray, List.getElem_cons_succ, List.getElem_cons_zero]
      try simp only [List.setIfInBounds_toArray, List.set_cons_zero, List.set_cons_succ]
      refine wpAnyH_take (i := 4) (v := .pointer (some ⟨b, 0, none⟩)) rfl (by kernel_rfl) (by kernel_rfl) (by kernel_rfl) (fun _ _ _ h => h) (Or.inl ⟨by rfl, ?_⟩) (by assumption) ?_
      · intro w hSw; go_simp
      try simp only [Act.put, List.getElem_toArray, List.getElem_cons_succ, List.getElem_cons_zero]
      try simp only [List.setIfInBounds_toArray, List.set_cons_zero, List.set_cons_succ]
      refine wpAnyH_take (i := 5) (v := .pointer (some ⟨b, 0, none⟩)) rfl (by kernel_rfl) (by kernel_rfl) (by kernel_rfl) (fun _ _ _ h => h) (Or.inl ⟨by rfl, ?_⟩) (by assumption) ?_
      · intro w hSw; go_simp
      try simp only [Act.put, List.getElem_toArray, List.getElem_cons_succ, List.getElem_cons_zero]
      try simp only [List.setIfInBounds_toArray, List.set_cons_zero, List.set_cons_succ]
      refine wpAnyH_take (i := 6) (v := .pointer (some ⟨b, 6, none⟩)) rfl (by kernel_rfl) (by kernel_rfl) (by kernel_rfl) (fun _ _ _ h => h) (Or.inl ⟨by rfl, ?_⟩) (by assumption) ?_
      · intro w hSw; go_simp
      try simp only [Act.put, List.getElem_toArray, List.getElem_cons_succ, List.getElem_cons_zero]
      try simp only [List.setIfInBounds_toArray, List.set_cons_zero, List.set_cons_succ]
      refine wpAnyH_take (i := 7) (v := .agg #[.int .i64 s.term, .int .i64 s.vote]) rfl (by kernel_rfl) (by kernel_rfl) (by kernel_rfl) (fun _ _ _ h => h) (Or.inl ⟨by rfl, ?_⟩) (by assumption) ?_
      · intro w hSw; go_simp
      try simp only [Act.put, List.getElem_toArray, List.getElem_cons_succ, List.getElem_cons_zero]
      try simp only [List.setIfInBounds_toArray, List.set_cons_zero, List.set_cons_succ]
      refine wpAnyH_take (i := 8) (v := .agg #[.int .i64 s.term, .int .i64 s.vote]) rfl (by kernel_rfl) (by kernel_rfl) (by kernel_rfl) (fun _ _ _ h => h) (Or.inl ⟨by rfl, ?_⟩) (by assumption) ?_
      · intro w hSw; go_simp
      try simp only [Act.put, List.getElem_toArray, List.getElem_cons_succ, List.getElem_cons_zero]
      try simp only [List.setIfInBounds_toArray, List.set_cons_zero, List.set_cons_succ]
      refine wpAnyH_take (i := 9) (v := .bool false) rfl (by kernel_rfl) (by kernel_rfl) (by kernel_rfl) (fun _ _ _ h => h) (Or.inl ⟨by rfl, ?_⟩) (by assumption) ?_
      · intro w hSw; go_simp
      try simp only [Act.put, List.getElem_toArray, List.getElem_cons_succ, List.getElem_cons_zero]
      try simp only [List.setIfInBounds_toArray, List.set_cons_zero, List.set_cons_succ]
      refine wpAnyH_take (i := 10) (v := .bool false) rfl (by kernel_rfl) (by kernel_rfl) (by kernel_rfl) (fun _ _ _ h => h) (Or.inl ⟨by rfl, ?_⟩) (by assumption) ?_
      · intro w hSw; go_simp
      try simp only [Act.put, List.getElem_toArray, List.getElem_cons_succ, List.getElem_cons_zero]
      try simp only [List.setIfInBounds_toArray, List.set_cons_zero, List.set_cons_succ]
      refine wpAnyH_take (i := 11) (v := .pointer (some ⟨b, 0, none⟩)) rfl (by kernel_rfl) (by kernel_rfl) (by kernel_rfl) (fun _ _ _ h => h) (Or.inl ⟨by rfl, ?_⟩) (by assumption) ?_
      · intro w hSw; go_simp
      try simp only [Act.put, List.getElem_toArray, List.getElem_cons_succ, List.getElem_cons_zero]
      try simp only [List.setIfInBounds_toArray, List.set_cons_zero, List.set_cons_succ]
      refine wpAnyH_take (i := 12) (v := .pointer (some ⟨b, 0, none⟩)) rfl (by kernel_rfl) (by kernel_rfl) (by kernel_rfl) (fun _ _ _ h => h) (Or.inl ⟨by rfl, ?_⟩) (by assumption) ?_
      · intro w hSw; go_simp
      try simp only [Act.put, List.getElem_toArray, List.getElem_cons_succ, List.getElem_cons_zero]
      try simp only [List.setIfInBounds_toArray, List.set_cons_zero, List.set_cons_succ]
      refine wpAnyH_take (i := 13) (v := .pointer (some ⟨b, 26, none⟩)) rfl (by kernel_rfl) (by kernel_rfl) (by kernel_rfl) (fun _ _ _ h => h) (Or.inl ⟨by rfl, ?_⟩) (by assumption) ?_
      · intro w hSw; go_simp
      try simp only [Act.put, List.getElem_toArray, List.getElem_cons_succ, List.getElem_cons_zero]
      try simp only [List.setIfInBounds_toArray, List.set_cons_zero, List.set_cons_succ]
      refine wpAnyH_take (i := 14) (v := .int .i64 s'.from_) rfl (by kernel_rfl) (by kernel_rfl) (by kernel_rfl) (fun _ _ _ h => h) (Or.inl ⟨by rfl, ?_⟩) (by assumption) ?_
      · intro w hSw; go_simp
      try simp only [Act.put, List.getElem_toArray, List.getElem_cons_succ, List.getElem_cons_zero]
      try simp only [List.setIfInBounds_toArray, List.set_cons_zero, List.set_cons_succ]
      refine wpAnyH_take (i := 15) (v := .bool fl) rfl (by kernel_rfl) (by kernel_rfl) (by kernel_rfl) (fun _ _ _ h => h) (Or.inl ⟨by rfl, ?_⟩) (by assumption) ?_
      · intro w hSw; go_simp
      try simp only [Act.put, List.getElem_toArray, List.getElem_cons_succ, List.getElem_cons_zero]
      try simp only [List.setIfInBounds_toArray, List.set_cons_zero, List.set_cons_succ]
      refine wpAnyH_take (i := 16) (v := .bool fl) rfl (by kernel_rfl) (by kernel_rfl) (by kernel_rfl) (fun _ _ _ h => h) (Or.inl ⟨by rfl, ?_⟩) (by assumption) ?_
      · intro w hSw; go_simp
      try simp only [Act.put, List.getElem_toArray, List.getElem_cons_succ, List.getElem_cons_zero]
      try simp only [List.setIfInBounds_toArray, List.set_cons_zero, List.set_cons_succ]
      refine wpAnyH_take (i := 17) (v := .pointer (some ⟨b, 0, none⟩)) rfl (by kernel_rfl) (by kernel_rfl) (by kernel_rfl) (fun _ _ _ h => h) (Or.inl ⟨by rfl, ?_⟩) (by assumption) ?_
      · intro w hSw; go_simp
      try simp only [Act.put, List.getElem_toArray, List.getElem_cons_succ, List.getElem_cons_zero]
      try simp only [List.setIfInBounds_toArray, List.set_cons_zero, List.set_cons_succ]
      refine wpAnyH_take (i := 20) (v := .pointer (some ⟨b, 0, none⟩)) rfl (by kernel_rfl) (by kernel_rfl) (by kernel_rfl) (fun _ _ _ h => h) (Or.inl ⟨by rfl, ?_⟩) (by assumption) ?_
      · intro w hSw; go_simp
      try simp only [Act.put, List.getElem_toArray, List.getElem_cons_succ, List.getElem_cons_zero]
      try simp only [List.setIfInBounds_toArray, List.set_cons_zero, List.set_cons_succ]
      refine wpAnyH_take (i := 21) (v := .pointer (some ⟨b, 0, none⟩)) rfl (by kernel_rfl) (by kernel_rfl) (by kernel_rfl) (fun _ _ _ h => h) (Or.inl ⟨by rfl, ?_⟩) (by assumption) ?_
      · intro w hSw; go_simp
      try simp only [Act.put, List.getElem_toArray, List.getElem_cons_succ, List.getElem_cons_zero]
      try simp only [List.setIfInBounds_toArray, List.set_cons_zero, List.set_cons_succ]
      refine wpAnyH_take (i := 22) (v := .pointer (some ⟨b, 24, none⟩)) rfl (by kernel_rfl) (by kernel_rfl) (by kernel_rfl) (fun _ _ _ h => h) (Or.inl ⟨by rfl, ?_⟩) (by assumption) ?_
      · intro w hSw; go_simp
      try simp only [Act.put, List.getElem_toArray, List.getElem_cons_succ, List.getElem_cons_zero]
      try simp only [List.setIfInBounds_toArray, List.set_cons_zero, List.set_cons_succ]
      refine wpAnyH_take (i := 23) (v := .slice c'.mA c'.mn c'.mc) rfl (by kernel_rfl) (by kernel_rfl) (by kernel_rfl) (fun _ _ _ h => h) (Or.inl ⟨by rfl, ?_⟩) (by assumption) ?_
      · intro w hSw; go_simp
      try simp only [Act.put, List.getElem_toArray, List.getElem_cons_succ, List.getElem_cons_zero]
      try simp only [List.setIfInBounds_toArray, List.set_cons_zero, List.set_cons_succ]
      refine wpAnyH_take (i := 24) (v := .pointer (some ⟨b, 0, none⟩)) rfl (by kernel_rfl) (by kernel_rfl) (by kernel_rfl) (fun _ _ _ h => h) (Or.inl ⟨by rfl, ?_⟩) (by assumption) ?_
      · intro w hSw; go_simp
      try simp only [Act.put, List.getElem_toArray, List.getElem_cons_succ, List.getElem_cons_zero]
      try simp only [List.setIfInBounds_toArray, List.set_cons_zero, List.set_cons_succ]
      refine wpAnyH_take (i := 25) (v := .pointer (some ⟨b, 0, none⟩)) rfl (by kernel_rfl) (by kernel_rfl) (by kernel_rfl) (fun _ _ _ h => h) (Or.inl ⟨by rfl, ?_⟩) (by assumption) ?_
      · intro w hSw; go_simp
      try simp only [Act.put, List.getElem_toArray, List.getElem_cons_succ, List.getElem_cons_zero]
      try simp only [List.setIfInBounds_toArray, List.set_cons_zero, List.set_cons_succ]
      refine wpAnyH_take (i := 26) (v := .pointer (some ⟨b, 11, none⟩)) rfl (by kernel_rfl) (by kernel_rfl) (by kernel_rfl) (fun _ _ _ h => h) (Or.inl ⟨by rfl, ?_⟩) (by assumption) ?_
      · intro w hSw; go_simp
      try simp only [Act.put, List.getElem_toArray, List.getElem_cons_succ, List.getElem_cons_zero]
      try simp only [List.setIfInBounds_toArray, List.set_cons_zero, List.set_cons_succ]
      refine wpAnyH_take (i := 27) (v := .int .i64 s'.commit) rfl (by kernel_rfl) (by kernel_rfl) (by kernel_rfl) (fun _ _ _ h => h) (Or.inl ⟨by rfl, ?_⟩) (by assumption) ?_
      · intro w hSw; go_simp
      try simp only [Act.put, List.getElem_toArray, List.getElem_cons_succ, List.getElem_cons_zero]
      try simp only [List.setIfInBounds_toArray, List.set_cons_zero, List.set_cons_succ]
      refine wpAnyH_take (i := 28) (v := .pointer (some ⟨b, 0, none⟩)) rfl (by kernel_rfl) (by kernel_rfl) (by kernel_rfl) (fun _ _ _ h => h) (Or.inl ⟨by rfl, ?_⟩) (by assumption) ?_
      · intro w hSw; go_simp
      try simp only [Act.put, List.getElem_toArray, List.getElem_cons_succ, List.getElem_cons_zero]
      try simp only [List.setIfInBounds_toArray, List.set_cons_zero, List.set_cons_succ]
      refine wpAnyH_take (i := 29) (v := .pointer (some ⟨b, 0, none⟩)) rfl (by kernel_rfl) (by kernel_rfl) (by kernel_rfl) (fun _ _ _ h => h) (Or.inl ⟨by rfl, ?_⟩) (by assumption) ?_
      · intro w hSw; go_simp
      try simp only [Act.put, List.getElem_toArray, List.getElem_cons_succ, List.getElem_cons_zero]
      try simp only [List.setIfInBounds_toArray, List.set_cons_zero, List.set_cons_succ]
      refine wpAnyH_take (i := 30) (v := .pointer (some ⟨b, 12, none⟩)) rfl (by kernel_rfl) (by kernel_rfl) (by kernel_rfl) (fun _ _ _ h => h) (Or.inl ⟨by rfl, ?_⟩) (by assumption) ?_
      · intro w hSw; go_simp
      try simp only [Act.put, List.getElem_toArray, List.getElem_cons_succ, List.getElem_cons_zero]
      try simp only [List.setIfInBounds_toArray, List.set_cons_zero, List.set_cons_succ]
      refine wpAnyH_take (i := 31) (v := .int .i64 s'.role) rfl (by kernel_rfl) (by kernel_rfl) (by kernel_rfl) (fun _ _ _ h => h) (Or.inl ⟨by rfl, ?_⟩) (by assumption) ?_
      · intro w hSw; go_simp
      try simp only [Act.put, List.getElem_toArray, List.getElem_cons_succ, List.getElem_cons_zero]
      try simp only [List.setIfInBounds_toArray, List.set_cons_zero, List.set_cons_succ]
      refine wpAnyH_take (i := 32) (v := .pointer (some ⟨b, 0, none⟩)) rfl (by kernel_rfl) (by kernel_rfl) (by kernel_rfl) (fun _ _ _ h => h) (Or.inl ⟨by rfl, ?_⟩) (by assumption) ?_
      · intro w hSw; go_simp
      try simp only [Act.put, List.getElem_toArray, List.getElem_cons_succ, List.getElem_cons_zero]
      try simp only [List.setIfInBounds_toArray, List.set_cons_zero, List.set_cons_succ]
      refine wpAnyH_take (i := 33) (v := .pointer (some ⟨b, 0, none⟩)) rfl (by kernel_rfl) (by kernel_rfl) (by kernel_rfl) (fun _ _ _ h => h) (Or.inl ⟨by rfl, ?_⟩) (by assumption) ?_
      · intro w hSw; go_simp
      try simp only [Act.put, List.getElem_toArray, List.getElem_cons_succ, List.getElem_cons_zero]
      try simp only [List.setIfInBounds_toArray, List.set_cons_zero, List.set_cons_succ]
      refine wpAnyH_take (i := 34) (v := .pointer (some ⟨b, 13, none⟩)) rfl (by kernel_rfl) (by kernel_rfl) (by kernel_rfl) (fun _ _ _ h => h) (Or.inl ⟨by rfl, ?_⟩) (by assumption) ?_
      · intro w hSw; go_simp
      try simp only [Act.put, List.getElem_toArray, List.getElem_cons_succ, List.getElem_cons_zero]
      try simp only [List.setIfInBounds_toArray, List.set_cons_zero, List.set_cons_succ]
      refine wpAnyH_take (i := 35) (v := .int .i64 s'.leader) rfl (by kernel_rfl) (by kernel_rfl) (by kernel_rfl) (fun _ _ _ h => h) (Or.inl ⟨by rfl, ?_⟩) (by assumption) ?_
      · intro w hSw; go_simp
      try simp only [Act.put, List.getElem_toArray, List.getElem_cons_succ, List.getElem_cons_zero]
      try simp only [List.setIfInBounds_toArray, List.set_cons_zero, List.set_cons_succ]
      refine wpAnyH_take (i := 36) (v := .pointer (some ⟨b, 0, none⟩)) rfl (by kernel_rfl) (by kernel_rfl) (by kernel_rfl) (fun _ _ _ h => h) (Or.inl ⟨by rfl, ?_⟩) (by assumption) ?_
      · intro w hSw; go_simp
      try simp only [Act.put, List.getElem_toArray, List.getElem_cons_succ, List.getElem_cons_zero]
      try simp only [List.setIfInBounds_toArray, List.set_cons_zero, List.set_cons_succ]
      refine wpAnyH_take (i := 37) (v := .pointer (some ⟨b, 0, none⟩)) rfl (by kernel_rfl) (by kernel_rfl) (by kernel_rfl) (fun _ _ _ h => h) (Or.inl ⟨by rfl, ?_⟩) (by assumption) ?_
      · intro w hSw; go_simp
      try simp only [Act.put, List.getElem_toArray, List.getElem_cons_succ, List.getElem_cons_zero]
      try simp only [List.setIfInBounds_toArray, List.set_cons_zero, List.set_cons_succ]
      refine wpAnyH_take (i := 38) (v := .pointer (some ⟨b, 27, none⟩)) rfl (by kernel_rfl) (by kernel_rfl) (by kernel_rfl) (fun _ _ _ h => h) (Or.inl ⟨by rfl, ?_⟩) (by assumption) ?_
      · intro w hSw; go_simp
      try simp only [Act.put, List.getElem_toArray, List.getElem_cons_succ, List.getElem_cons_zero]
      try simp only [List.setIfInBounds_toArray, List.set_cons_zero, List.set_cons_succ]
      refine wpAnyH_take (i := 39) (v := .int .i64 s'.first) rfl (by kernel_rfl) (by kernel_rfl) (by kernel_rfl) (fun _ _ _ h => h) (Or.inl ⟨by rfl, ?_⟩) (by assumption) ?_
      · intro w hSw; go_simp
      try simp only [Act.put, List.getElem_toArray, List.getElem_cons_succ, List.getElem_cons_zero]
      try simp only [List.setIfInBounds_toArray, List.set_cons_zero, List.set_cons_succ]
      refine wpAnyH_take (i := 40) (v := .pointer (some ⟨b, 0, none⟩)) rfl (by kernel_rfl) (by kernel_rfl) (by kernel_rfl) (fun _ _ _ h => h) (Or.inl ⟨by rfl, ?_⟩) (by assumption) ?_
      · intro w hSw; go_simp
      try simp only [Act.put, List.getElem_toArray, List.getElem_cons_succ, List.getElem_cons_zero]
      try simp only [List.setIfInBounds_toArray, List.set_cons_zero, List.set_cons_succ]
      refine wpAnyH_take (i := 41) (v := .pointer (some ⟨b, 0, none⟩)) rfl (by kernel_rfl) (by kernel_rfl) (by kernel_rfl) (fun _ _ _ h => h) (Or.inl ⟨by rfl, ?_⟩) (by assumption) ?_
      · intro w hSw; go_simp
      try simp only [Act.put, List.getElem_toArray, List.getElem_cons_succ, List.getElem_cons_zero]
      try simp only [List.setIfInBounds_toArray, List.set_cons_zero, List.set_cons_succ]
      refine wpAnyH_take (i := 42) (v := .pointer (some ⟨b, 28, none⟩)) rfl (by kernel_rfl) (by kernel_rfl) (by kernel_rfl) (fun _ _ _ h => h) (Or.inl ⟨by rfl, ?_⟩) (by assumption) ?_
      · intro w hSw; go_simp
      try simp only [Act.put, List.getElem_toArray, List.getElem_cons_succ, List.getElem_cons_zero]
      try simp only [List.setIfInBounds_toArray, List.set_cons_zero, List.set_cons_succ]
      refine wpAnyH_take (i := 43) (v := .int .i64 s'.last) rfl (by kernel_rfl) (by kernel_rfl) (by kernel_rfl) (fun _ _ _ h => h) (Or.inl ⟨by rfl, ?_⟩) (by assumption) ?_
      · intro w hSw; go_simp
      try simp only [Act.put, List.getElem_toArray, List.getElem_cons_succ, List.getElem_cons_zero]
      try simp only [List.setIfInBounds_toArray, List.set_cons_zero, List.set_cons_succ]
      refine wpAnyH_ready (rs := [18, 45]) (by kernel_rfl) (by simp) ?_
      refine AllReadyH.cons rfl (fun K hK => ?_) (AllReadyH.cons rfl (fun K hK => ?_) AllReadyH.nil)
      ·
        go_simp
        refine (HEE.out (wc.drew) rfl).mono ?_
        rintro e w6 ⟨rfl, nq6, rfl⟩
        go_wp2_with fail
        refine hK.out _ _ ?_ (fun hHeld => ?_)
        · go_keep
        clear hK K
        try simp only [Act.put, List.getElem_toArray, List.getElem_cons_succ, List.getElem_cons_zero]
        try simp only [Act.put, List.setIfInBounds_toArray, List.set_cons_zero, List.set_cons_succ]
        refine wpAnyH_take (i := 19) (v := .int .i64 (s'.snap + (c'.ln : Int) + 1)) rfl (by kernel_rfl) (by kernel_rfl) (by kernel_rfl) (fun _ _ _ h => h) (Or.inl ⟨by rfl, ?_⟩) (by assumption) ?_
        · intro w hSw; go_simp
        try simp only [Act.put, List.getElem_toArray, List.getElem_cons_succ, List.getElem_cons_zero]
        try simp only [List.setIfInBounds_toArray, List.set_cons_zero, List.set_cons_succ]
        refine wpAnyH_take (i := 44) (v := .agg #[.int .i64 s.term, .int .i64 s.vote, .bool fl, .int .i64 (s'.snap + (c'.ln : Int) + 1), .slice none 0 0, .slice c'.mA c'.mn c'.mc, .int .i64 s'.commit, .slice none 0 0, .int .i64 s'.role, .int .i64 s'.leader, .int .i64 s'.first, .int .i64 s'.last]) rfl (by kernel_rfl) (by kernel_rfl) (by kernel_rfl) (fun _ _ _ h => h) (Or.inl ⟨by rfl, ?_⟩) (by assumption) ?_
        · intro w hSw; go_simp
        try simp only [Act.put, List.getElem_toArray, List.getElem_cons_succ, List.getElem_cons_zero]
        try simp only [List.setIfInBounds_toArray, List.set_cons_zero, List.set_cons_succ]
        refine wpAnyH_ready (rs := [45]) (by kernel_rfl) (by simp) ?_
        refine AllReadyH.cons rfl (fun K hK => ?_) AllReadyH.nil
        go_simp
        refine hK.out _ _ ?_ (fun hHeld => ?_)
        · go_keep
        clear hK K
        try simp only [Act.put, List.getElem_toArray, List.getElem_cons_succ, List.getElem_cons_zero]
        try simp only [Act.put, List.setIfInBounds_toArray, List.set_cons_zero, List.set_cons_succ]
        have hW7 : ((wc.drewN (1 + nq6)).alloc (.cells #[.int .i64 0, .int .i64 0, .bool false, .int .i64 0, .slice none 0 0, .slice none 0 0, .int .i64 0, .slice none 0 0, .int .i64 0, .int .i64 0, .int .i64 0, .int .i64 0] 80)).heap[(wc.drewN (1 + nq6)).heap.size]? = _ := World.alloc_at (wc.drewN (1 + nq6)) (.cells #[.int .i64 0, .int .i64 0, .bool false, .int .i64 0, .slice none 0 0, .slice none 0 0, .int .i64 0, .slice none 0 0, .int .i64 0, .int .i64 0, .int .i64 0, .int .i64 0] 80)
        have hb7 : Below y wc ((wc.drewN (1 + nq6)).alloc (.cells #[.int .i64 0, .int .i64 0, .bool false, .int .i64 0, .slice none 0 0, .slice none 0 0, .int .i64 0, .slice none 0 0, .int .i64 0, .int .i64 0, .int .i64 0, .int .i64 0] 80)) := HY.out ▸ ((show Below wc.heap.size wc (wc.drewN (1 + nq6)) from ⟨rfl, rfl, rfl, Nat.le_refl _, fun _ _ => rfl⟩).alloc (Nat.le_refl _) _)
        have hs7 : ((wc.drewN (1 + nq6)).alloc (.cells #[.int .i64 0, .int .i64 0, .bool false, .int .i64 0, .slice none 0 0, .slice none 0 0, .int .i64 0, .slice none 0 0, .int .i64 0, .int .i64 0, .int .i64 0, .int .i64 0] 80)).heap.size = y + 1 := by have e := World.alloc_size (wc.drewN (1 + nq6)) (.cells #[.int .i64 0, .int .i64 0, .bool false, .int .i64 0, .slice none 0 0, .slice none 0 0, .int .i64 0, .slice none 0 0, .int .i64 0, .int .i64 0, .int .i64 0, .int .i64 0] 80); rw [show (wc.drewN (1 + nq6)).heap.size = y from HY.out.symm] at e; exact e
        rw [show (wc.drewN (1 + nq6)).heap.size = y from HY.out.symm] at hW7
        try rw [show wc.heap.size = y from HY.out.symm]
        try rw [show (wc.drew).heap.size = y from HY.out.symm]
        generalize (wc.drewN (1 + nq6)).alloc (.cells #[.int .i64 0, .int .i64 0, .bool false, .int .i64 0, .slice none 0 0, .slice none 0 0, .int .i64 0, .slice none 0 0, .int .i64 0, .int .i64 0, .int .i64 0, .int .i64 0] 80) = W7 at hHeld hW7 hb7 hs7 ⊢
        have hbY : b ≠ y := by have := HY.out; omega
        have hzY : z + 3 ≠ y := by have := HY.out; omega
        obtain ⟨y0, y1, y2, y3, y4, y5, y6, y7, y8, y9, y10, y11⟩ := cells12 hW7
        have hf7 := frozen_block hW7
        have st := store12 hW7 (.int .i64 s.term) (.int .i64 s.vote) (.bool fl) (.int .i64 (s'.snap + (c'.ln : Int) + 1)) (.slice none 0 0) (.slice c'.mA c'.mn c'.mc) (.int .i64 s'.commit) (.slice none 0 0) (.int .i64 s'.role) (.int .i64 s'.leader) (.int .i64 s'.first) (.int .i64 s'.last)
        refine wpAnyH_ready (rs := [46]) (by kernel_rfl) (by simp) ?_
        refine AllReadyH.cons rfl (fun K hK => ?_) AllReadyH.nil
        go_simp
        refine hK.out _ _ ?_ (fun hHeld => ?_)
        · exact ⟨(cell_heap (st.2.1 b hbY) _).trans hHeld.1, (cell_heap (st.2.1 b hbY) _).trans hHeld.2.1, (cell_heap (st.2.1 b hbY) _).trans hHeld.2.2.1, (cell_heap (st.2.1 b hbY) _).trans hHeld.2.2.2.1, (cell_heap (st.2.1 b hbY) _).trans hHeld.2.2.2.2.1, (cell_heap (st.2.1 b hbY) _).trans hHeld.2.2.2.2.2.1, (cell_heap (st.2.1 b hbY) _).trans hHeld.2.2.2.2.2.2.1, (cell_heap (st.2.1 b hbY) _).trans hHeld.2.2.2.2.2.2.2.1, (cell_heap (st.2.1 b hbY) _).trans hHeld.2.2.2.2.2.2.2.2.1, (cell_heap (st.2.1 (z + 3) hzY) _).trans hHeld.2.2.2.2.2.2.2.2.2.1, (cell_heap (st.2.1 (z + 3) hzY) _).trans hHeld.2.2.2.2.2.2.2.2.2.2⟩
        clear hK K
        try simp only [Act.put, List.getElem_toArray, List.getElem_cons_succ, List.getElem_cons_zero]
        try simp only [Act.put, List.setIfInBounds_toArray, List.set_cons_zero, List.set_cons_succ]
        refine wpAnyH_done (by kernel_rfl) ?_ _
        try simp only [Act.put, List.getElem_toArray, List.getElem_cons_succ, List.getElem_cons_zero]
        try simp only [Act.put, List.setIfInBounds_toArray, List.set_cons_zero, List.set_cons_succ]
        go_wp2_with fail
        go_meet
        exact ⟨rfl, Lib.hid ⟨by rw [show decide (s'.term ≠ s.term ∨ 0 < s'.from_) = fl from by rw [← hfl]; simp [HT.out], HT.out, HV.out]; exact st.1, st.2.2.2 _ hb7, st.2.2.1.trans hs7⟩⟩
      ·
        go_simp
        refine hK.out _ _ ?_ (fun hHeld => ?_)
        · go_keep
        clear hK K
        try simp only [Act.put, List.getElem_toArray, List.getElem_cons_succ, List.getElem_cons_zero]
        try simp only [Act.put, List.setIfInBounds_toArray, List.set_cons_zero, List.set_cons_succ]
        have hW7 : ((wc.alloc (.cells #[.int .i64 0, .int .i64 0, .bool false, .int .i64 0, .slice none 0 0, .slice none 0 0, .int .i64 0, .slice none 0 0, .int .i64 0, .int .i64 0, .int .i64 0, .int .i64 0] 80)).drew).heap[(wc.drew).heap.size]? = _ := World.alloc_at (wc.drew) (.cells #[.int .i64 0, .int .i64 0, .bool false, .int .i64 0, .slice none 0 0, .slice none 0 0, .int .i64 0, .slice none 0 0, .int .i64 0, .int .i64 0, .int .i64 0, .int .i64 0] 80)
        have hb7 : Below y wc ((wc.alloc (.cells #[.int .i64 0, .int .i64 0, .bool false, .int .i64 0, .slice none 0 0, .slice none 0 0, .int .i64 0, .slice none 0 0, .int .i64 0, .int .i64 0, .int .i64 0, .int .i64 0] 80)).drew) := HY.out ▸ ((show Below wc.heap.size wc (wc.drew) from ⟨rfl, rfl, rfl, Nat.le_refl _, fun _ _ => rfl⟩).alloc (Nat.le_refl _) _)
        have hs7 : ((wc.alloc (.cells #[.int .i64 0, .int .i64 0, .bool false, .int .i64 0, .slice none 0 0, .slice none 0 0, .int .i64 0, .slice none 0 0, .int .i64 0, .int .i64 0, .int .i64 0, .int .i64 0] 80)).drew).heap.size = y + 1 := by have e := World.alloc_size (wc.drew) (.cells #[.int .i64 0, .int .i64 0, .bool false, .int .i64 0, .slice none 0 0, .slice none 0 0, .int .i64 0, .slice none 0 0, .int .i64 0, .int .i64 0, .int .i64 0, .int .i64 0] 80); rw [show (wc.drew).heap.size = y from HY.out.symm] at e; exact e
        rw [show (wc.drew).heap.size = y from HY.out.symm] at hW7
        try rw [show wc.heap.size = y from HY.out.symm]
        try rw [show (wc.drew).heap.size = y from HY.out.symm]
        generalize (wc.alloc (.cells #[.int .i64 0, .int .i64 0, .bool false, .int .i64 0, .slice none 0 0, .slice none 0 0, .int .i64 0, .slice none 0 0, .int .i64 0, .int .i64 0, .int .i64 0, .int .i64 0] 80)).drew = W7 at hHeld hW7 hb7 hs7 ⊢
        have hbY : b ≠ y := by have := HY.out; omega
        have hzY : z + 3 ≠ y := by have := HY.out; omega
        refine wpAnyH_ready (rs := [18]) (by kernel_rfl) (by simp) ?_
        refine AllReadyH.cons rfl (fun K hK => ?_) AllReadyH.nil
        go_simp
        refine (HEE.out W7 (hb7.block b (by have := HY.out; omega))).mono ?_
        rintro e w6 ⟨rfl, nq6, rfl⟩
        go_wp2_with fail
        refine hK.out _ _ ?_ (fun hHeld => ?_)
        · exact hHeld
        clear hK K
        try simp only [Act.put, List.getElem_toArray, List.getElem_cons_succ, List.getElem_cons_zero]
        try simp only [Act.put, List.setIfInBounds_toArray, List.set_cons_zero, List.set_cons_succ]
        have hW7' : (W7.drewN nq6).heap[y]? = _ := hW7
        have hb7' : Below y wc (W7.drewN nq6) := hb7.trans ⟨rfl, rfl, rfl, Nat.le_refl _, fun _ _ => rfl⟩
        have hs7' : (W7.drewN nq6).heap.size = y + 1 := hs7
        clear hW7 hb7 hs7
        generalize W7.drewN nq6 = W8 at hHeld hW7' hb7' hs7' ⊢
        have hW7 := hW7'
        have hb7 := hb7'
        have hs7 := hs7'
        refine wpAnyH_take (i := 19) (v := .int .i64 (s'.snap + (c'.ln : Int) + 1)) rfl (by kernel_rfl) (by kernel_rfl) (by kernel_rfl) (fun _ _ _ h => h) (Or.inl ⟨by rfl, ?_⟩) (by assumption) ?_
        · intro w hSw; go_simp
        try simp only [Act.put, List.getElem_toArray, List.getElem_cons_succ, List.getElem_cons_zero]
        try simp only [List.setIfInBounds_toArray, List.set_cons_zero, List.set_cons_succ]
        refine wpAnyH_take (i := 44) (v := .agg #[.int .i64 s.term, .int .i64 s.vote, .bool fl, .int .i64 (s'.snap + (c'.ln : Int) + 1), .slice none 0 0, .slice c'.mA c'.mn c'.mc, .int .i64 s'.commit, .slice none 0 0, .int .i64 s'.role, .int .i64 s'.leader, .int .i64 s'.first, .int .i64 s'.last]) rfl (by kernel_rfl) (by kernel_rfl) (by kernel_rfl) (fun _ _ _ h => h) (Or.inl ⟨by rfl, ?_⟩) (by assumption) ?_
        · intro w hSw; go_simp
        try simp only [Act.put, List.getElem_toArray, List.getElem_cons_succ, List.getElem_cons_zero]
        try simp only [List.setIfInBounds_toArray, List.set_cons_zero, List.set_cons_succ]
        obtain ⟨y0, y1, y2, y3, y4, y5, y6, y7, y8, y9, y10, y11⟩ := cells12 hW7
        have hf7 := frozen_block hW7
        have st := store12 hW7 (.int .i64 s.term) (.int .i64 s.vote) (.bool fl) (.int .i64 (s'.snap + (c'.ln : Int) + 1)) (.slice none 0 0) (.slice c'.mA c'.mn c'.mc) (.int .i64 s'.commit) (.slice none 0 0) (.int .i64 s'.role) (.int .i64 s'.leader) (.int .i64 s'.first) (.int .i64 s'.last)
        refine wpAnyH_ready (rs := [46]) (by kernel_rfl) (by simp) ?_
        refine AllReadyH.cons rfl (fun K hK => ?_) AllReadyH.nil
        go_simp
        refine hK.out _ _ ?_ (fun hHeld => ?_)
        · exact ⟨(cell_heap (st.2.1 b hbY) _).trans hHeld.1, (cell_heap (st.2.1 b hbY) _).trans hHeld.2.1, (cell_heap (st.2.1 b hbY) _).trans hHeld.2.2.1, (cell_heap (st.2.1 b hbY) _).trans hHeld.2.2.2.1, (cell_heap (st.2.1 b hbY) _).trans hHeld.2.2.2.2.1, (cell_heap (st.2.1 b hbY) _).trans hHeld.2.2.2.2.2.1, (cell_heap (st.2.1 b hbY) _).trans hHeld.2.2.2.2.2.2.1, (cell_heap (st.2.1 b hbY) _).trans hHeld.2.2.2.2.2.2.2.1, (cell_heap (st.2.1 b hbY) _).trans hHeld.2.2.2.2.2.2.2.2.1, (cell_heap (st.2.1 (z + 3) hzY) _).trans hHeld.2.2.2.2.2.2.2.2.2.1, (cell_heap (st.2.1 (z + 3) hzY) _).trans hHeld.2.2.2.2.2.2.2.2.2.2⟩
        clear hK K
        try simp only [Act.put, List.getElem_toArray, List.getElem_cons_succ, List.getElem_cons_zero]
        try simp only [Act.put, List.setIfInBounds_toArray, List.set_cons_zero, List.set_cons_succ]
        refine wpAnyH_done (by kernel_rfl) ?_ _
        try simp only [Act.put, List.getElem_toArray, List.getElem_cons_succ, List.getElem_cons_zero]
        try simp only [Act.put, List.setIfInBounds_toArray, List.set_cons_zero, List.set_cons_succ]
        go_wp2_with fail
        go_meet
        exact ⟨rfl, Lib.hid ⟨by rw [show decide (s'.term ≠ s.term ∨ 0 < s'.from_) = fl from by rw [← hfl]; simp [HT.out], HT.out, HV.out]; exact st.1, st.2.2.2 _ hb7, st.2.2.1.trans hs7⟩⟩
    case rest =>
      obtain ⟨rfl, hy8⟩ := hcut
      obtain ⟨hy8, hb8, hs8⟩ := hy8.out
      have HY8 := Lib.hid hy8
      have HB8 := Lib.hid hb8
      have HS8 := Lib.hid hs8
      have hB := (hb8.block b (by have := HY.out; have := block_lt HB.out; omega)).trans HB.out
      have HBB := Lib.hid hB
      have c26 := nc26 hB
      obtain ⟨y0, y1, y2, y3, y4, y5, y6, y7, y8, y9, y10, y11⟩ := cells12 hy8
      have hf8 := frozen_block hy8
      clear hy8 hb8 hs8 hB
      have HND := Lib.hid (HHA.out.nd.below (HY.out ▸ HB8.out))
      have HCW : Hid (Chg F w wc) := Lib.hid ((hC3.trans2 HHA.out.chg (fun i hi => by
        have hF0 := HF0.out
        have := HZ.out
        rw [hF0] at hi
        rcases hi with h | h
        · exact .inl h
        · right; omega)).below (HY.out ▸ HB8.out))
      have HFF : Hid ((∀ i, F i → F' i) ∧ (∀ i, F' i → F i ∨ w.heap.size ≤ i) ∧ (∀ i, F' i → i < y) ∧ ¬ F' (z + 1)) := Lib.hid ⟨fun i hi => HHA.out.sub i (by rw [HF0.out]; exact .inl hi), fun i hi => by
        have := HZ.out
        have := HZ3.out
        rcases HHA.out.sub' i hi with h | h
        · rw [HF0.out] at h
          rcases h with h | h
          · exact .inl h
          · right; omega
        · right; omega, fun i hi => by rw [HY.out]; exact HHA.out.nd.rest.bdF i hi, fun hi => by
        have := HZ3.out
        rcases HHA.out.sub' _ hi with h | h
        · rw [HF0.out] at h
          rcases h with h | h
          · have := hF.out _ h; omega
          · omega
        · omega⟩
      have hzy : z + 5 ≤ y := by have := HY.out; have := HZ4.out; omega
      have HR8 := Lib.hid ((HB8.out.block (z + 1) (by omega)).trans HR4.out)
      have HOT := Lib.hid (show others s'.id c'.peers = [] by rw [HHA.out.peers, HC0.out, hid, hp1]; simp [others])
      have HPL := Lib.hid (show c'.peers.length ≤ 7 by rw [HHA.out.peers, HC0.out]; show c.peers.length ≤ 7; rw [hp1]; exact Nat.le_of_ble_eq_true rfl)
      have HMS := Lib.hid (show c'.msgs = [] ∧ c'.mA = none ∧ c'.mn = 0 ∧ c'.mc = 0 by
        obtain ⟨e1, e2, e3, e4⟩ := HHA.out.msgs
        rw [e1, e2, e3, e4, HC0.out]; exact ⟨hms.1, hms.2.1, hms.2.2.1, hms.2.2.2⟩)
      have hzw : w.heap.size ≤ y := by have := HZ.out; omega
      by_cases hfr : 0 < s'.from_
      · obtain ⟨k, hk⟩ : ∃ k : Nat, s'.from_ = s'.snap + 1 + k := ⟨(s'.from_ - s'.snap - 1).toNat, by have := hfr2 hfr; omega⟩
        have hE := HHA.out.nd.rest.log.ents
        have hkn : k ≤ c'.ln := by have := hfr2 hfr; have := HLL.out; omega
        have hbz : b < y := by have := HY.out; have := block_lt HB.out; omega
        have hcut := (Ents.cut (k := k) hE.1 hkn hE.2.1 hE.2.2).below (HY.out ▸ HB8.out)
        have hkc : k ≤ c'.lc := Nat.le_trans hkn hE.2.2
        have hcl : (c'.log.drop k).length ≤ 100000 := by rw [List.length_drop]; have := HLL.out; omega
        have hcn : c'.ln - k = (c'.log.drop k).length := by rw [List.length_drop]; have := HLL.out; omega
        clear hE
        go_upto_region 11 with (fail)
        have hY9 := block_setCell (o := 3) HY8.out (.int .i64 (s'.snap + 1 + (k : Int)))
        have hb9 := HB8.out.setCell (p := ⟨y, 3, none⟩) (Nat.le_refl _) (.int .i64 (s'.snap + 1 + (k : Int)))
        have hby9 : Below y wc (wc.setCell ⟨y, 3, none⟩ (.int .i64 (s'.snap + 1 + (k : Int)))) := (Below.refl _ _).setCell (p := ⟨y, 3, none⟩) (Nat.le_refl _) (.int .i64 (s'.snap + 1 + (k : Int)))
        have hs9 : (wc.setCell ⟨y, 3, none⟩ (.int .i64 (s'.snap + 1 + (k : Int)))).heap.size = y + 1 := by simp only [World.setCell, Array.size_modify]; exact HS8.out
        clear y0 y1 y2 y3 y4 y5 y6 y7 y8 y9 y10 y11 hf8 c26
        generalize wc.setCell ⟨y, 3, none⟩ (.int .i64 (s'.snap + 1 + (k : Int))) = W9 at hY9 hb9 hby9 hs9 ⊢
        have HCO := Lib.hid (copied_any _ (c'.ln - k) (c'.lc - k) _ W9.drew ((hcut.below (HY.out ▸ hby9)).more (by show _ ≤ W9.heap.size; rw [hs9]; have := HY.out; omega)).drew hcn hcl)
        have HN9 := Lib.hid (HND.out.keep (by rw [hs9, HS8.out]; exact Nat.le_refl _) (fun i hi _ => hby9.block i (by rcases hi with hi | hi; exact HFF.out.2.2.1 i hi; exact hi.elim)))
        have HC9 := Lib.hid (HCW.out.belowN hby9 (by have := HZ.out; omega))
        have HR9 := Lib.hid ((hby9.block (z + 1) (by omega)).trans HR8.out)
        have HY9 := Lib.hid hY9
        have HS9 := Lib.hid hs9
        have hB := HN9.out.blk
        have d8 := nc8 hB
        have d9 := nc9 hB
        have d26 : W9.cell? ⟨b, 26, none⟩ = some (.int .i64 (s'.snap + 1 + (k : Int))) := by rw [← hk]; exact nc26 hB
        have hlb : b < W9.heap.size := block_lt hB
        have y9 := frozen_block hY9
        have y94 := cell_block hY9 4 _ rfl
        have hly : y < W9.heap.size := block_lt hY9
        clear hB hcut hY9 hb9 hby9 hs9 hcn hcl HR8 HCW HND HY8 HB8 HBB HS8
        have hw1 : IntKind.i64.wrap (s'.snap + 1 + (k : Int) - s'.snap) = 1 + (k : Int) := by rw [IntWalk.i64_in _ (by omega)]; omega
        have hw2 : IntKind.i64.wrap (1 + (k : Int) - 1) = (k : Int) := by rw [IntWalk.i64_in _ (by omega)]; omega
        refine wp_region_held_drew (S := fun w' => w'.cell? ⟨b, 8, none⟩ = some (.slice c'.lA c'.ln c'.lc) ∧ w'.cell? ⟨b, 26, none⟩ = some (.int .i64 (s'.snap + 1 + (k : Int))) ∧ w'.cell? ⟨b, 9, none⟩ = some (.int .i64 s'.snap)) (by kernel_rfl) ⟨d8, d26, d9⟩ (fun hHeld => ?_)
        refine wpAnyH_take (i := 0) (v := .pointer (some ⟨b, 0, none⟩)) rfl (by kernel_rfl) (by kernel_rfl) (by kernel_rfl) (fun _ _ _ h => h) (Or.inl ⟨by rfl, ?_⟩) (by assumption) ?_
        · intro w hSw; go_simp
        try simp only [Act.put, List.getElem_toArray, List.getElem_cons_zero]
        try simp only [List.setIfInBounds_toArray, List.set_cons_zero, List.set_cons_succ]
        refine wpAnyH_take (i := 1) (v := .pointer (some ⟨b, 0, none⟩)) rfl (by kernel_rfl) (by kernel_rfl) (by kernel_rfl) (fun _ _ _ h => h) (Or.inl ⟨by rfl, ?_⟩) (by assumption) ?_
        · intro w hSw; go_simp
        try simp only [Act.put, List.getElem_toArray, List.getElem_cons_succ, List.getElem_cons_zero]
        try simp only [List.setIfInBounds_toArray, List.set_cons_zero, List.set_cons_succ]
        refine wpAnyH_take (i := 2) (v := .pointer (some ⟨b, 8, none⟩)) rfl (by kernel_rfl) (by kernel_rfl) (by kernel_rfl) (fun _ _ _ h => h) (Or.inl ⟨by rfl, ?_⟩) (by assumption) ?_
        · intro w hSw; go_simp
        try simp only [Act.put, List.getElem_toArray, List.getElem_cons_succ, List.getElem_cons_zero]
        try simp only [List.setIfInBounds_toArray, List.set_cons_zero, List.set_cons_succ]
        refine wpAnyH_take (i := 3) (v := .slice c'.lA c'.ln c'.lc) rfl (by kernel_rfl) (by kernel_rfl) (by kernel_rfl) (fun _ _ _ h => h) (Or.inl ⟨by rfl, ?_⟩) (by assumption) ?_
        · intro w hSw; go_simp
        try simp only [Act.put, List.getElem_toArray, List.getElem_cons_succ, List.getElem_cons_zero]
        try simp only [List.setIfInBounds_toArray, List.set_cons_zero, List.set_cons_succ]
        refine wpAnyH_take (i := 4) (v := .pointer (some ⟨b, 0, none⟩)) rfl (by kernel_rfl) (by kernel_rfl) (by kernel_rfl) (fun _ _ _ h => h) (Or.inl ⟨by rfl, ?_⟩) (by assumption) ?_
        · intro w hSw; go_simp
        try simp only [Act.put, List.getElem_toArray, List.getElem_cons_succ, List.getElem_cons_zero]
        try simp only [List.setIfInBounds_toArray, List.set_cons_zero, List.set_cons_succ]
        refine wpAnyH_take (i := 5) (v := .pointer (some ⟨b, 0, none⟩)) rfl (by kernel_rfl) (by kernel_rfl) (by kernel_rfl) (fun _ _ _ h => h) (Or.inl ⟨by rfl, ?_⟩) (by assumption) ?_
        · intro w hSw; go_simp
        try simp only [Act.put, List.getElem_toArray, List.getElem_cons_succ, List.getElem_cons_zero]
        try simp only [List.setIfInBounds_toArray, List.set_cons_zero, List.set_cons_succ]
        refine wpAnyH_take (i := 6) (v := .pointer (some ⟨b, 26, none⟩)) rfl (by kernel_rfl) (by kernel_rfl) (by kernel_rfl) (fun _ _ _ h => h) (Or.inl ⟨by rfl, ?_⟩) (by assumption) ?_
        · intro w hSw; go_simp
        try simp only [Act.put, List.getElem_toArray, List.getElem_cons_succ, List.getElem_cons_zero]
        try simp only [List.setIfInBounds_toArray, List.set_cons_zero, List.set_cons_succ]
        refine wpAnyH_take (i := 7) (v := .int .i64 (s'.snap + 1 + (k : Int))) rfl (by kernel_rfl) (by kernel_rfl) (by kernel_rfl) (fun _ _ _ h => h) (Or.inl ⟨by rfl, ?_⟩) (by assumption) ?_
        · intro w hSw; go_simp
        try simp only [Act.put, List.getElem_toArray, List.getElem_cons_succ, List.getElem_cons_zero]
        try simp only [List.setIfInBounds_toArray, List.set_cons_zero, List.set_cons_succ]
        refine wpAnyH_take (i := 8) (v := .pointer (some ⟨b, 0, none⟩)) rfl (by kernel_rfl) (by kernel_rfl) (by kernel_rfl) (fun _ _ _ h => h) (Or.inl ⟨by rfl, ?_⟩) (by assumption) ?_
        · intro w hSw; go_simp
        try simp only [Act.put, List.getElem_toArray, List.getElem_cons_succ, List.getElem_cons_zero]
        try simp only [List.setIfInBounds_toArray, List.set_cons_zero, List.set_cons_succ]
        refine wpAnyH_take (i := 9) (v := .pointer (some ⟨b, 0, none⟩)) rfl (by kernel_rfl) (by kernel_rfl) (by kernel_rfl) (fun _ _ _ h => h) (Or.inl ⟨by rfl, ?_⟩) (by assumption) ?_
        · intro w hSw; go_simp
        try simp only [Act.put, List.getElem_toArray, List.getElem_cons_succ, List.getElem_cons_zero]
        try simp only [List.setIfInBounds_toArray, List.set_cons_zero, List.set_cons_succ]
        refine wpAnyH_take (i := 10) (v := .pointer (some ⟨b, 9, none⟩)) rfl (by kernel_rfl) (by kernel_rfl) (by kernel_rfl) (fun _ _ _ h => h) (Or.inl ⟨by rfl, ?_⟩) (by assumption) ?_
        · intro w hSw; go_simp
        try simp only [Act.put, List.getElem_toArray, List.getElem_cons_succ, List.getElem_cons_zero]
        try simp only [List.setIfInBounds_toArray, List.set_cons_zero, List.set_cons_succ]
        refine wpAnyH_take (i := 11) (v := .int .i64 s'.snap) rfl (by kernel_rfl) (by kernel_rfl) (by kernel_rfl) (fun _ _ _ h => h) (Or.inl ⟨by rfl, ?_⟩) (by assumption) ?_
        · intro w hSw; go_simp
        try simp only [Act.put, List.getElem_toArray, List.getElem_cons_succ, List.getElem_cons_zero]
        try simp only [List.setIfInBounds_toArray, List.set_cons_zero, List.set_cons_succ]
        refine wpAnyH_take (i := 12) (v := .int .i64 (1 + (k : Int))) rfl (by kernel_rfl) (by kernel_rfl) (by kernel_rfl) (fun _ _ _ h => h) (Or.inl ⟨by rfl, ?_⟩) (by assumption) ?_
        · intro w hSw; go_simp
        try simp only [Act.put, List.getElem_toArray, List.getElem_cons_succ, List.getElem_cons_zero]
        try simp only [List.setIfInBounds_toArray, List.set_cons_zero, List.set_cons_succ]
        refine wpAnyH_take (i := 13) (v := .int .i64 (k : Int)) rfl (by kernel_rfl) (by kernel_rfl) (by kernel_rfl) (fun _ _ _ h => h) (Or.inl ⟨by rfl, ?_⟩) (by assumption) ?_
        · intro w hSw; go_simp
        try simp only [Act.put, List.getElem_toArray, List.getElem_cons_succ, List.getElem_cons_zero]
        try simp only [List.setIfInBounds_toArray, List.set_cons_zero, List.set_cons_succ]
        refine wpAnyH_take (i := 14) (v := .slice (if c'.lc = k then c'.lA else Option.map (fun x => x.add (k * 3)) c'.lA) (c'.ln - k) (c'.lc - k)) rfl (by kernel_rfl) (by kernel_rfl) (by kernel_rfl) (fun _ _ _ h => h) (Or.inl ⟨by rfl, ?_⟩) (by assumption) ?_
        · intro w hSw; go_simp
        try simp only [Act.put, List.getElem_toArray, List.getElem_cons_succ, List.getElem_cons_zero]
        try simp only [List.setIfInBounds_toArray, List.set_cons_zero, List.set_cons_succ]
        generalize (if c'.lc = k then c'.lA else Option.map (fun x => x.add (k * 3)) c'.lA) = A9 at HCO ⊢
        refine wpAnyH_ready (rs := [15]) (by kernel_rfl) (by simp) ?_
        refine AllReadyH.cons rfl (fun K hK => ?_) AllReadyH.nil
        go_simp
        refine HCO.out.mono ?_
        rintro e w10 ⟨v10, qs10, rfl, hO10, hq10, hb10⟩
        obtain ⟨A10, k10, rfl⟩ := hO10.own.form
        have hY10 := (hb10.block y hly).trans HY9.out
        have yf := frozen_block hY10
        have y4 := cell_block hY10 4 _ rfl
        have hly10 := block_lt hY10
        go_wp2_with fail
        refine hK.out _ _ ?_ (fun hHeld => ?_)
        · exact ⟨((bcell hb10).1 _ _ hlb).trans d8, ((bcell hb10).1 _ _ hlb).trans d26, ((bcell hb10).1 _ _ hlb).trans d9⟩
        clear hK K
        try simp only [Act.put, List.getElem_toArray, List.getElem_cons_succ, List.getElem_cons_zero]
        try simp only [Act.put, List.setIfInBounds_toArray, List.set_cons_zero, List.set_cons_succ]
        refine wpAnyH_take (i := 16) (v := .pointer (some ⟨y, 4, none⟩)) rfl (by kernel_rfl) (by kernel_rfl) (by kernel_rfl) (fun _ _ _ h => h) (Or.inl ⟨by rfl, ?_⟩) (by assumption) ?_
        · intro w hSw; go_simp
        try simp only [Act.put, List.getElem_toArray, List.getElem_cons_succ, List.getElem_cons_zero]
        try simp only [List.setIfInBounds_toArray, List.set_cons_zero, List.set_cons_succ]
        refine wpAnyH_ready (rs := [17]) (by kernel_rfl) (by simp) ?_
        refine AllReadyH.cons rfl (fun K hK => ?_) AllReadyH.nil
        go_simp
        refine hK.out _ _ ?_ (fun hHeld => ?_)
        · exact ⟨(cell_heap (Below.heap_setCell _ _ _ _ (Nat.ne_of_lt hbz)) _).trans hHeld.1, (cell_heap (Below.heap_setCell _ _ _ _ (Nat.ne_of_lt hbz)) _).trans hHeld.2.1, (cell_heap (Below.heap_setCell _ _ _ _ (Nat.ne_of_lt hbz)) _).trans hHeld.2.2⟩
        clear hK K
        try simp only [Act.put, List.getElem_toArray, List.getElem_cons_succ, List.getElem_cons_zero]
        try simp only [Act.put, List.setIfInBounds_toArray, List.set_cons_zero, List.set_cons_succ]
        refine wpAnyH_done (by kernel_rfl) ?_ _
        try simp only [Act.put, List.getElem_toArray, List.getElem_cons_succ, List.getElem_cons_zero]
        try simp only [Act.put, List.setIfInBounds_toArray, List.set_cons_zero, List.set_cons_succ]
        have hb10' : Below W9.heap.size W9 w10 := ⟨hb10.os, hb10.tape, hb10.output, hb10.size, hb10.block⟩
        have hot : ∀ i, i ≠ y → (w10.setCell ⟨y, 4, none⟩ (.slice A10 qs10.length k10)).heap[i]? = w10.heap[i]? := fun i hi => Below.heap_setCell _ _ _ _ hi
        have hs11 : (w10.setCell ⟨y, 4, none⟩ (.slice A10 qs10.length k10)).heap.size = w10.heap.size := by simp only [World.setCell, Array.size_modify]
        have HYt := Lib.hid (block_setCell (o := 4) hY10 (.slice A10 qs10.length k10))
        have HNt := Lib.hid ((HN9.out.below hb10').keep (w' := w10.setCell ⟨y, 4, none⟩ (.slice A10 qs10.length k10)) (by rw [hs11]; exact Nat.le_refl _) (fun i hi _ => hot i (Nat.ne_of_lt (by rcases hi with hi | hi; exact HFF.out.2.2.1 i hi; exact hi.elim))))
        have HCt := Lib.hid ((HC9.out.below hb10').setCell (p := ⟨y, 4, none⟩) (.inr hzw) (.slice A10 qs10.length k10))
        have HRt := Lib.hid ((hot (z + 1) (by omega)).trans ((hb10'.block (z + 1) (block_lt HR9.out)).trans HR9.out))
        obtain ⟨hEs, hEn, hEk⟩ := hO10.entsS
        have hys : W9.heap.size = y + 1 := HS9.out
        have HEt := Lib.hid (hEs.keep (w' := w10.setCell ⟨y, 4, none⟩ (.slice A10 qs10.length k10)) (fun i hi => hot i (by have : W9.heap.size ≤ i := hi.1; omega)))
        obtain ⟨St, hSt⟩ : ∃ St : Nat → Prop, St = fun i => W9.drew.heap.size ≤ i ∧ i < w10.heap.size := ⟨_, rfl⟩
        rw [← hSt] at HEt
        have HSt : Hid (∀ i, St i → w.heap.size ≤ i ∧ i < (w10.setCell ⟨y, 4, none⟩ (.slice A10 qs10.length k10)).heap.size ∧ ¬ F' i ∧ i ≠ b ∧ i ≠ z + 1) := Lib.hid (fun i hi => by
          rw [hSt] at hi
          have h1 : W9.heap.size ≤ i := hi.1
          refine ⟨by omega, by rw [hs11]; exact hi.2, fun h => by have := HFF.out.2.2.1 i h; omega, by omega, by omega⟩)
        have HQ := Lib.hid (show qs10.map con = (log'.drop k) by rw [hq10, List.map_drop, HHA.out.log])
        clear hot hs11 hSt hEs hb10 hb10' hY10 yf y4 hO10 hq10 HN9 HC9 HR9 HY9 HS9 HCO hys d8 d9 d26 hly hly10 hlb y9 y94 hw1 hw2
        generalize w10.setCell ⟨y, 4, none⟩ (.slice A10 qs10.length k10) = W11 at HYt HNt HCt HRt HEt HSt ⊢
        have hB := HNt.out.blk
        have hlt := HNt.out.lt
        go_wp2_with (fail)
        refine (others_any b s' c' _ (by exact HNt.out.blk) (by exact HNt.out.rest.peers) HPL.out).mono ?_
        rintro e w12 ⟨A12, n12, rfl, _, hb12⟩
        rw [HOT.out]
        simp only [List.length_nil]
        have hz12 := hb12.size
        have HN12 := Lib.hid (HNt.out.below hb12)
        have HC12 := Lib.hid (HCt.out.below hb12)
        have HY12 := Lib.hid ((hb12.block y (block_lt HYt.out)).trans HYt.out)
        have HR12 := Lib.hid ((hb12.block (z + 1) (block_lt HRt.out)).trans HRt.out)
        have HE12 := Lib.hid (HEt.out.keep (w' := w12) (fun i hi => hb12.block i (HSt.out i hi).2.1))
        have HS12 : Hid (∀ i, St i → w.heap.size ≤ i ∧ i < w12.heap.size ∧ ¬ F' i ∧ i ≠ b ∧ i ≠ z + 1) := Lib.hid (fun i hi => by have := HSt.out i hi; exact ⟨this.1, by omega, this.2.2⟩)
        clear HNt HCt HYt HRt HEt HSt hB hlt hb12 hz12
        go_wp2_with (fail)
        go_loop [132] (fun i => i = .int .i64 0) (fun _ => 0)
        case atStart => rfl
        case round =>
          subst hrel
          have hB := HN12.out.blk
          have c24 := nc24 hB
          have hf := frozen_block hB
          obtain ⟨y0, y1, y2, y3, y4, y5, y6, y7, y8, y9, y10, y11⟩ := cells12 HY12.out
          obtain ⟨r0, r1, r2, r3, r4, r5, r6, r7, r8, r9, r10, r11⟩ := cells12 HR12.out
          have fr := frozen_block HR12.out
          have l1 : y < w12.heap.size := block_lt HY12.out
          have l2 : z + 1 < w12.heap.size := block_lt HR12.out
          have l3 : b < w12.heap.size := block_lt hB
          clear hB
          go_wp2_with (fail)
          have hbz1 : b ≠ z + 1 := fun e => HFF.out.2.2.2 (e ▸ HN12.out.hb)
          have st := store12 (w := w12.setCell ⟨b, 24, none⟩ (.slice none 0 0)) (y := z + 1) ((Below.heap_setCell _ _ _ _ (fun e => hbz1 e.symm)).trans HR12.out) (.int .i64 s'.term) (.int .i64 s'.vote) (.bool true) (.int .i64 (s'.snap + 1 + (k : Int))) (.slice A10 qs10.length k10) (.slice c'.mA c'.mn c'.mc) (.int .i64 s'.commit) (.slice none 0 0) (.int .i64 s'.role) (.int .i64 s'.leader) (.int .i64 s'.first) (.int .i64 s'.last)
          have hbf := (st.2.1 b hbz1).trans (block_setCell (o := 24) HN12.out.blk (.slice none 0 0))
          have hof : ∀ i, i ≠ b → i ≠ z + 1 → ((((((((((((((w12.setCell ⟨b, 24, none⟩ (.slice none 0 0)).setCell ⟨z + 1, 0, none⟩ (.int .i64 s'.term)).setCell ⟨z + 1, 1, none⟩ (.int .i64 s'.vote)).setCell ⟨z + 1, 2, none⟩ (.bool true)).setCell ⟨z + 1, 3, none⟩ (.int .i64 (s'.snap + 1 + (k : Int)))).setCell ⟨z + 1, 4, none⟩ (.slice A10 qs10.length k10)).setCell ⟨z + 1, 5, none⟩ (.slice c'.mA c'.mn c'.mc)).setCell ⟨z + 1, 6, none⟩ (.int .i64 s'.commit)).setCell ⟨z + 1, 7, none⟩ (.slice none 0 0)).setCell ⟨z + 1, 8, none⟩ (.int .i64 s'.role)).setCell ⟨z + 1, 9, none⟩ (.int .i64 s'.leader)).setCell ⟨z + 1, 10, none⟩ (.int .i64 s'.first)).setCell ⟨z + 1, 11, none⟩ (.int .i64 s'.last))).heap[i]? = w12.heap[i]? := fun i h1 h2 => (st.2.1 i h2).trans (Below.heap_setCell _ _ _ _ h1)
          have hsf : ((((((((((((((w12.setCell ⟨b, 24, none⟩ (.slice none 0 0)).setCell ⟨z + 1, 0, none⟩ (.int .i64 s'.term)).setCell ⟨z + 1, 1, none⟩ (.int .i64 s'.vote)).setCell ⟨z + 1, 2, none⟩ (.bool true)).setCell ⟨z + 1, 3, none⟩ (.int .i64 (s'.snap + 1 + (k : Int)))).setCell ⟨z + 1, 4, none⟩ (.slice A10 qs10.length k10)).setCell ⟨z + 1, 5, none⟩ (.slice c'.mA c'.mn c'.mc)).setCell ⟨z + 1, 6, none⟩ (.int .i64 s'.commit)).setCell ⟨z + 1, 7, none⟩ (.slice none 0 0)).setCell ⟨z + 1, 8, none⟩ (.int .i64 s'.role)).setCell ⟨z + 1, 9, none⟩ (.int .i64 s'.leader)).setCell ⟨z + 1, 10, none⟩ (.int .i64 s'.first)).setCell ⟨z + 1, 11, none⟩ (.int .i64 s'.last))).heap.size = w12.heap.size := st.2.2.1.trans (by simp only [World.setCell, Array.size_modify])
          have hcf : Chg F w ((((((((((((((w12.setCell ⟨b, 24, none⟩ (.slice none 0 0)).setCell ⟨z + 1, 0, none⟩ (.int .i64 s'.term)).setCell ⟨z + 1, 1, none⟩ (.int .i64 s'.vote)).setCell ⟨z + 1, 2, none⟩ (.bool true)).setCell ⟨z + 1, 3, none⟩ (.int .i64 (s'.snap + 1 + (k : Int)))).setCell ⟨z + 1, 4, none⟩ (.slice A10 qs10.length k10)).setCell ⟨z + 1, 5, none⟩ (.slice c'.mA c'.mn c'.mc)).setCell ⟨z + 1, 6, none⟩ (.int .i64 s'.commit)).setCell ⟨z + 1, 7, none⟩ (.slice none 0 0)).setCell ⟨z + 1, 8, none⟩ (.int .i64 s'.role)).setCell ⟨z + 1, 9, none⟩ (.int .i64 s'.leader)).setCell ⟨z + 1, 10, none⟩ (.int .i64 s'.first)).setCell ⟨z + 1, 11, none⟩ (.int .i64 s'.last))) := by
            have hz1 : w.heap.size ≤ z + 1 := by have := HZ.out; omega
            have h0 := HC12.out.setCell (p := ⟨b, 24, none⟩) (by rcases HFF.out.2.1 b HN12.out.hb with h | h; exact .inl h; exact .inr h) (.slice none 0 0)
            exact ((((((((((((h0.setCell (p := ⟨z + 1, 0, none⟩) (.inr hz1) (.int .i64 s'.term)).setCell (p := ⟨z + 1, 1, none⟩) (.inr hz1) (.int .i64 s'.vote)).setCell (p := ⟨z + 1, 2, none⟩) (.inr hz1) (.bool true)).setCell (p := ⟨z + 1, 3, none⟩) (.inr hz1) (.int .i64 (s'.snap + 1 + (k : Int)))).setCell (p := ⟨z + 1, 4, none⟩) (.inr hz1) (.slice A10 qs10.length k10)).setCell (p := ⟨z + 1, 5, none⟩) (.inr hz1) (.slice c'.mA c'.mn c'.mc)).setCell (p := ⟨z + 1, 6, none⟩) (.inr hz1) (.int .i64 s'.commit)).setCell (p := ⟨z + 1, 7, none⟩) (.inr hz1) (.slice none 0 0)).setCell (p := ⟨z + 1, 8, none⟩) (.inr hz1) (.int .i64 s'.role)).setCell (p := ⟨z + 1, 9, none⟩) (.inr hz1) (.int .i64 s'.leader)).setCell (p := ⟨z + 1, 10, none⟩) (.inr hz1) (.int .i64 s'.first)).setCell (p := ⟨z + 1, 11, none⟩) (.inr hz1) (.int .i64 s'.last))
          have e24 : (ncells s' c').setIfInBounds 24 (.slice none 0 0) = ncells s' c' := by
            obtain ⟨_, e2, e3, e4⟩ := HMS.out
            simp [ncells, e2, e3, e4]
          rw [e24] at hbf
          obtain ⟨s0, s1, s2, s3, s4, s5, s6, s7, s8, s9, s10, s11⟩ := cells12 st.1
          have hblk := st.1
          clear st e24 HY12 HR12 y0 y1 y2 y3 y4 y5 y6 y7 y8 y9 y10 y11 r0 r1 r2 r3 r4 r5 r6 r7 r8 r9 r10 r11 fr hf c24
          with_reducible generalize (((((((((((((w12.setCell ⟨b, 24, none⟩ (.slice none 0 0)).setCell ⟨z + 1, 0, none⟩ (.int .i64 s'.term)).setCell ⟨z + 1, 1, none⟩ (.int .i64 s'.vote)).setCell ⟨z + 1, 2, none⟩ (.bool true)).setCell ⟨z + 1, 3, none⟩ (.int .i64 (s'.snap + 1 + (k : Int)))).setCell ⟨z + 1, 4, none⟩ (.slice A10 qs10.length k10)).setCell ⟨z + 1, 5, none⟩ (.slice c'.mA c'.mn c'.mc)).setCell ⟨z + 1, 6, none⟩ (.int .i64 s'.commit)).setCell ⟨z + 1, 7, none⟩ (.slice none 0 0)).setCell ⟨z + 1, 8, none⟩ (.int .i64 s'.role)).setCell ⟨z + 1, 9, none⟩ (.int .i64 s'.leader)).setCell ⟨z + 1, 10, none⟩ (.int .i64 s'.first)).setCell ⟨z + 1, 11, none⟩ (.int .i64 s'.last)) = Wf at hbf hof hsf hcf s0 s1 s2 s3 s4 s5 s6 s7 s8 s9 s10 s11 hblk ⊢
          have l4 : z + 1 < Wf.heap.size := by rw [hsf]; exact l2
          try simp only [Exit.inBlock, Exit.then]
          refine bodyPost_ret (v := .tuple #[.agg #[.int .i64 s'.term, .int .i64 s'.vote, .bool true, .int .i64 (s'.snap + 1 + (k : Int)), .slice A10 qs10.length k10, .slice c'.mA c'.mn c'.mc, .int .i64 s'.commit, .slice none 0 0, .int .i64 s'.role, .int .i64 s'.leader, .int .i64 s'.first, .int .i64 s'.last], .int .i64 0]) ?_ rfl ?_
          · exact results_cell_tmp_row rfl _ Wf (z + 1) 80 _ (0, 0) _ _ rfl rfl hblk Tryz.underlying80 rfl (by kernel_rfl)
          have hnd : NdAt Wf F' (fun _ => False) b s' c' := ⟨hbf, HN12.out.hb, HN12.out.rest.keepB HN12.out.blk (Nat.le_of_eq hsf.symm) (fun i hi _ hne => hof i hne (fun e => HFF.out.2.2.2 (by rcases hi with hi | hi; exact e ▸ hi; exact hi.elim)))⟩
          have hpe : c'.peers = c.peers := by rw [HHA.out.peers, HC0.out]
          have hen : EntsS Wf St A10 qs10 := HE12.out.keep (fun i hi => by have := HS12.out i hi; exact hof i this.2.2.2.1 this.2.2.2.2)
          have hfs : ∀ i, St i → w.heap.size ≤ i ∧ i < Wf.heap.size ∧ ¬ F' i := by
            intro i hi
            have := HS12.out i hi
            rw [hsf]
            exact ⟨this.1, this.2.1, this.2.2.1⟩
          have hco : qs10.map con = if 0 < s'.from_ then log'.drop (s'.from_ - s'.snap - 1).toNat else [] := by
            rw [HQ.out, if_pos (hk ▸ hfr), hk]
            congr 1
            omega
          have hrv : readyV s s' log'.length A10 qs10.length k10 = .agg #[.int .i64 s'.term, .int .i64 s'.vote, .bool true, .int .i64 (s'.snap + 1 + (k : Int)), .slice A10 qs10.length k10, .slice c'.mA c'.mn c'.mc, .int .i64 s'.commit, .slice none 0 0, .int .i64 s'.role, .int .i64 s'.leader, .int .i64 s'.first, .int .i64 s'.last] := by
            unfold readyV
            rw [if_pos (hk ▸ hfr), decide_eq_true (Or.inr (hk ▸ hfr) : s'.term ≠ s.term ∨ 0 < s'.from_), hk, HMS.out.2.1, HMS.out.2.2.1, HMS.out.2.2.2]
          exact ⟨F', c', A10, qs10.length, k10, by rw [hrv], qs10, St, ⟨hnd, HHA.out.log, hpe, HMS.out, hcf, HFF.out.1, HFF.out.2.1, HHA.out.q, hen, ⟨rfl, by simpa using hEk⟩, hfs, hco⟩⟩
      · obtain ⟨fw, hfw⟩ : ∃ fw : Bool, decide (s'.term ≠ s.term ∨ 0 < s'.from_) = fw := ⟨_, rfl⟩
        rw [hfw] at HY8 y2
        have HFW := Lib.hid hfw
        clear hfw
        go_upto_region 12 with (fail)
        have HNt := HND
        have HCt := HCW
        have HYt := HY8
        have HRt := HR8
        clear HND HCW HY8 HR8 HB8 HS8 HBB y0 y1 y2 y3 y4 y5 y6 y7 y8 y9 y10 y11 hf8 c26
        have hB := HNt.out.blk
        have hlt := HNt.out.lt
        go_wp2_with (fail)
        refine (others_any b s' c' _ (by exact HNt.out.blk) (by exact HNt.out.rest.peers) HPL.out).mono ?_
        rintro e w12 ⟨A12, n12, rfl, _, hb12⟩
        rw [HOT.out]
        simp only [List.length_nil]
        have hz12 := hb12.size
        have HN12 := Lib.hid (HNt.out.below hb12)
        have HC12 := Lib.hid (HCt.out.below hb12)
        have HY12 := Lib.hid ((hb12.block y (block_lt HYt.out)).trans HYt.out)
        have HR12 := Lib.hid ((hb12.block (z + 1) (block_lt HRt.out)).trans HRt.out)
        clear HNt HCt HYt HRt hB hlt hb12 hz12
        go_wp2_with (fail)
        go_loop [132] (fun i => i = .int .i64 0) (fun _ => 0)
        case atStart => rfl
        case round =>
          subst hrel
          have hB := HN12.out.blk
          have c24 := nc24 hB
          have hf := frozen_block hB
          obtain ⟨y0, y1, y2, y3, y4, y5, y6, y7, y8, y9, y10, y11⟩ := cells12 HY12.out
          obtain ⟨r0, r1, r2, r3, r4, r5, r6, r7, r8, r9, r10, r11⟩ := cells12 HR12.out
          have fr := frozen_block HR12.out
          have l1 : y < w12.heap.size := block_lt HY12.out
          have l2 : z + 1 < w12.heap.size := block_lt HR12.out
          have l3 : b < w12.heap.size := block_lt hB
          clear hB
          go_wp2_with (fail)
          have hbz1 : b ≠ z + 1 := fun e => HFF.out.2.2.2 (e ▸ HN12.out.hb)
          have st := store12 (w := w12.setCell ⟨b, 24, none⟩ (.slice none 0 0)) (y := z + 1) ((Below.heap_setCell _ _ _ _ (fun e => hbz1 e.symm)).trans HR12.out) (.int .i64 s'.term) (.int .i64 s'.vote) (.bool fw) (.int .i64 (s'.snap + (c'.ln : Int) + 1)) (.slice none 0 0) (.slice c'.mA c'.mn c'.mc) (.int .i64 s'.commit) (.slice none 0 0) (.int .i64 s'.role) (.int .i64 s'.leader) (.int .i64 s'.first) (.int .i64 s'.last)
          have hbf := (st.2.1 b hbz1).trans (block_setCell (o := 24) HN12.out.blk (.slice none 0 0))
          have hof : ∀ i, i ≠ b → i ≠ z + 1 → ((((((((((((((w12.setCell ⟨b, 24, none⟩ (.slice none 0 0)).setCell ⟨z + 1, 0, none⟩ (.int .i64 s'.term)).setCell ⟨z + 1, 1, none⟩ (.int .i64 s'.vote)).setCell ⟨z + 1, 2, none⟩ (.bool fw)).setCell ⟨z + 1, 3, none⟩ (.int .i64 (s'.snap + (c'.ln : Int) + 1))).setCell ⟨z + 1, 4, none⟩ (.slice none 0 0)).setCell ⟨z + 1, 5, none⟩ (.slice c'.mA c'.mn c'.mc)).setCell ⟨z + 1, 6, none⟩ (.int .i64 s'.commit)).setCell ⟨z + 1, 7, none⟩ (.slice none 0 0)).setCell ⟨z + 1, 8, none⟩ (.int .i64 s'.role)).setCell ⟨z + 1, 9, none⟩ (.int .i64 s'.leader)).setCell ⟨z + 1, 10, none⟩ (.int .i64 s'.first)).setCell ⟨z + 1, 11, none⟩ (.int .i64 s'.last))).heap[i]? = w12.heap[i]? := fun i h1 h2 => (st.2.1 i h2).trans (Below.heap_setCell _ _ _ _ h1)
          have hsf : ((((((((((((((w12.setCell ⟨b, 24, none⟩ (.slice none 0 0)).setCell ⟨z + 1, 0, none⟩ (.int .i64 s'.term)).setCell ⟨z + 1, 1, none⟩ (.int .i64 s'.vote)).setCell ⟨z + 1, 2, none⟩ (.bool fw)).setCell ⟨z + 1, 3, none⟩ (.int .i64 (s'.snap + (c'.ln : Int) + 1))).setCell ⟨z + 1, 4, none⟩ (.slice none 0 0)).setCell ⟨z + 1, 5, none⟩ (.slice c'.mA c'.mn c'.mc)).setCell ⟨z + 1, 6, none⟩ (.int .i64 s'.commit)).setCell ⟨z + 1, 7, none⟩ (.slice none 0 0)).setCell ⟨z + 1, 8, none⟩ (.int .i64 s'.role)).setCell ⟨z + 1, 9, none⟩ (.int .i64 s'.leader)).setCell ⟨z + 1, 10, none⟩ (.int .i64 s'.first)).setCell ⟨z + 1, 11, none⟩ (.int .i64 s'.last))).heap.size = w12.heap.size := st.2.2.1.trans (by simp only [World.setCell, Array.size_modify])
          have hcf : Chg F w ((((((((((((((w12.setCell ⟨b, 24, none⟩ (.slice none 0 0)).setCell ⟨z + 1, 0, none⟩ (.int .i64 s'.term)).setCell ⟨z + 1, 1, none⟩ (.int .i64 s'.vote)).setCell ⟨z + 1, 2, none⟩ (.bool fw)).setCell ⟨z + 1, 3, none⟩ (.int .i64 (s'.snap + (c'.ln : Int) + 1))).setCell ⟨z + 1, 4, none⟩ (.slice none 0 0)).setCell ⟨z + 1, 5, none⟩ (.slice c'.mA c'.mn c'.mc)).setCell ⟨z + 1, 6, none⟩ (.int .i64 s'.commit)).setCell ⟨z + 1, 7, none⟩ (.slice none 0 0)).setCell ⟨z + 1, 8, none⟩ (.int .i64 s'.role)).setCell ⟨z + 1, 9, none⟩ (.int .i64 s'.leader)).setCell ⟨z + 1, 10, none⟩ (.int .i64 s'.first)).setCell ⟨z + 1, 11, none⟩ (.int .i64 s'.last))) := by
            have hz1 : w.heap.size ≤ z + 1 := by have := HZ.out; omega
            have h0 := HC12.out.setCell (p := ⟨b, 24, none⟩) (by rcases HFF.out.2.1 b HN12.out.hb with h | h; exact .inl h; exact .inr h) (.slice none 0 0)
            exact ((((((((((((h0.setCell (p := ⟨z + 1, 0, none⟩) (.inr hz1) (.int .i64 s'.term)).setCell (p := ⟨z + 1, 1, none⟩) (.inr hz1) (.int .i64 s'.vote)).setCell (p := ⟨z + 1, 2, none⟩) (.inr hz1) (.bool fw)).setCell (p := ⟨z + 1, 3, none⟩) (.inr hz1) (.int .i64 (s'.snap + (c'.ln : Int) + 1))).setCell (p := ⟨z + 1, 4, none⟩) (.inr hz1) (.slice none 0 0)).setCell (p := ⟨z + 1, 5, none⟩) (.inr hz1) (.slice c'.mA c'.mn c'.mc)).setCell (p := ⟨z + 1, 6, none⟩) (.inr hz1) (.int .i64 s'.commit)).setCell (p := ⟨z + 1, 7, none⟩) (.inr hz1) (.slice none 0 0)).setCell (p := ⟨z + 1, 8, none⟩) (.inr hz1) (.int .i64 s'.role)).setCell (p := ⟨z + 1, 9, none⟩) (.inr hz1) (.int .i64 s'.leader)).setCell (p := ⟨z + 1, 10, none⟩) (.inr hz1) (.int .i64 s'.first)).setCell (p := ⟨z + 1, 11, none⟩) (.inr hz1) (.int .i64 s'.last))
          have e24 : (ncells s' c').setIfInBounds 24 (.slice none 0 0) = ncells s' c' := by
            obtain ⟨_, e2, e3, e4⟩ := HMS.out
            simp [ncells, e2, e3, e4]
          rw [e24] at hbf
          obtain ⟨s0, s1, s2, s3, s4, s5, s6, s7, s8, s9, s10, s11⟩ := cells12 st.1
          have hblk := st.1
          clear st e24 HY12 HR12 y0 y1 y2 y3 y4 y5 y6 y7 y8 y9 y10 y11 r0 r1 r2 r3 r4 r5 r6 r7 r8 r9 r10 r11 fr hf c24
          with_reducible generalize (((((((((((((w12.setCell ⟨b, 24, none⟩ (.slice none 0 0)).setCell ⟨z + 1, 0, none⟩ (.int .i64 s'.term)).setCell ⟨z + 1, 1, none⟩ (.int .i64 s'.vote)).setCell ⟨z + 1, 2, none⟩ (.bool fw)).setCell ⟨z + 1, 3, none⟩ (.int .i64 (s'.snap + (c'.ln : Int) + 1))).setCell ⟨z + 1, 4, none⟩ (.slice none 0 0)).setCell ⟨z + 1, 5, none⟩ (.slice c'.mA c'.mn c'.mc)).setCell ⟨z + 1, 6, none⟩ (.int .i64 s'.commit)).setCell ⟨z + 1, 7, none⟩ (.slice none 0 0)).setCell ⟨z + 1, 8, none⟩ (.int .i64 s'.role)).setCell ⟨z + 1, 9, none⟩ (.int .i64 s'.leader)).setCell ⟨z + 1, 10, none⟩ (.int .i64 s'.first)).setCell ⟨z + 1, 11, none⟩ (.int .i64 s'.last)) = Wf at hbf hof hsf hcf s0 s1 s2 s3 s4 s5 s6 s7 s8 s9 s10 s11 hblk ⊢
          have l4 : z + 1 < Wf.heap.size := by rw [hsf]; exact l2
          try simp only [Exit.inBlock, Exit.then]
          refine bodyPost_ret (v := .tuple #[.agg #[.int .i64 s'.term, .int .i64 s'.vote, .bool fw, .int .i64 (s'.snap + (c'.ln : Int) + 1), .slice none 0 0, .slice c'.mA c'.mn c'.mc, .int .i64 s'.commit, .slice none 0 0, .int .i64 s'.role, .int .i64 s'.leader, .int .i64 s'.first, .int .i64 s'.last], .int .i64 0]) ?_ rfl ?_
          · exact results_cell_tmp_row rfl _ Wf (z + 1) 80 _ (0, 0) _ _ rfl rfl hblk Tryz.underlying80 rfl (by kernel_rfl)
          have hnd : NdAt Wf F' (fun _ => False) b s' c' := ⟨hbf, HN12.out.hb, HN12.out.rest.keepB HN12.out.blk (Nat.le_of_eq hsf.symm) (fun i hi _ hne => hof i hne (fun e => HFF.out.2.2.2 (by rcases hi with hi | hi; exact e ▸ hi; exact hi.elim)))⟩
          have hpe : c'.peers = c.peers := by rw [HHA.out.peers, HC0.out]
          have hen : EntsS Wf (fun _ => False) none [] := EntsS.nil
          have hfs : ∀ i, False → w.heap.size ≤ i ∧ i < Wf.heap.size ∧ ¬ F' i := fun i hi => hi.elim
          have hco : ([] : List (LE × List Int)).map con = if 0 < s'.from_ then log'.drop (s'.from_ - s'.snap - 1).toNat else [] := by
            rw [if_neg (Int.not_lt.2 hfr)]; rfl
          have hrv : readyV s s' log'.length none 0 0 = .agg #[.int .i64 s'.term, .int .i64 s'.vote, .bool fw, .int .i64 (s'.snap + (c'.ln : Int) + 1), .slice none 0 0, .slice c'.mA c'.mn c'.mc, .int .i64 s'.commit, .slice none 0 0, .int .i64 s'.role, .int .i64 s'.leader, .int .i64 s'.first, .int .i64 s'.last] := by
            unfold readyV
            rw [if_neg (Int.not_lt.2 hfr), HFW.out, HMS.out.2.1, HMS.out.2.2.1, HMS.out.2.2.2, show (log'.length : Int) = (c'.ln : Int) by have := HLL.out; omega]
          exact ⟨F', c', none, 0, 0, by rw [hrv], [], fun _ => False, ⟨hnd, HHA.out.log, hpe, HMS.out, hcf, HFF.out.1, HFF.out.2.1, HHA.out.q, hen, ⟨rfl, Nat.le_refl _⟩, hfs, hco⟩⟩
end Go.Proofs.YtocogcgnahbpkaaGreat
