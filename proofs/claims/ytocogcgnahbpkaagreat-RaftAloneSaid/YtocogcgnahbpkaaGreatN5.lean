/-
  raft.Node.others: slices.IndexFunc and DeleteFunc with its closure.
-/
import Derived.Test.YtocogcgnahbpkaaGreatN4
import Derived.Lib.SliceRun
namespace Go.Proofs.YtocogcgnahbpkaaGreat
open Go.RowKit

/-- The closure 'p == n.c.ID' over the variable in block g. -/
abbrev isId (g : Nat) : Value := .func (.func 81) #[] #[.pointer (some ⟨g, 0, none⟩)]

set_option maxRecDepth 100000 in
theorem isId_any (p id : Int) (g b : Nat) (w : World) (h1 : w.cell? ⟨g, 0, none⟩ = some (.pointer (some ⟨b, 0, none⟩))) (h2 : w.cell? ⟨b, 0, none⟩ = some (.int .i64 id)) :
    Calls Tryz.prog 81 #[.int .i64 p, .pointer (some ⟨g, 0, none⟩)] w fun e w' => e = .returned (.bool (p == id)) ∧ w' = w := by
  go_enter Tryz.func81, Tryz.ntmps81
  go_wp2
  go_ret
  exact ⟨rfl, rfl⟩

set_option maxRecDepth 100000 in
set_option maxHeartbeats 1000000 in
theorem indexFunc_any (A : Option Addr) (n cp : Nat) (xs : List Int) (id : Int) (g b : Nat) (w : World) (hr : Row encI 1 w w.heap.size A xs) (hn : n = xs.length) (hl : xs.length ≤ 1000000) (h1 : w.cell? ⟨g, 0, none⟩ = some (.pointer (some ⟨b, 0, none⟩))) (h2 : w.cell? ⟨b, 0, none⟩ = some (.int .i64 id)) :
    Calls Tryz.prog 111 #[.slice A n cp, isId g] w fun e w' => e = .returned (.int .i64 (ixf xs id)) ∧ w' = w := by
  subst hn
  go_enter Tryz.func111, Tryz.ntmps111
  go_wp2
  go_loop [5, 8] (fun _ i => ∃ k : Nat, k ≤ xs.length ∧ i = .int .i64 k ∧ ∀ j, j < k → xs[j]? ≠ some id) (fun _ i => xs.length - (intOf i).toNat)
  case atStart => exact ⟨0, Nat.zero_le _, rfl, fun j hj => absurd hj (Nat.not_lt_zero _)⟩
  case round =>
    obtain ⟨k, hk, rfl, hp⟩ := hrel
    have HP := Lib.hid hp
    clear hp
    by_cases hlt : k < xs.length
    · have hg := List.getElem?_eq_getElem hlt
      obtain ⟨ba, o, rfl, _, c0⟩ := ints_at hr hg
      have HG := Lib.hid hg
      clear hg
      generalize xs[k] = y at c0 HG
      by_cases hy : y = id
      · subst hy
        have HX := Lib.hid (ixf_hit HG.out HP.out)
        go_wp2_with (go_at_call 81; refine (isId_any _ _ g b _ h1 h2).mono ?_; rintro e w' ⟨rfl, rfl⟩)
        go_ret
        exact ⟨by rw [HX.out]; rfl, rfl⟩
      · have hyb : (y == id) = false := by simpa using hy
        go_wp2_with (go_at_call 81; refine (isId_any _ _ g b _ h1 h2).mono ?_; rintro e w' ⟨rfl, rfl⟩)
        go_round
        case rel =>
          refine ⟨k + 1, by omega, by go_num, fun j hj => ?_⟩
          rcases Nat.lt_or_ge j k with h | h
          · exact HP.out j h
          · have : j = k := by omega
            subst this; rw [HG.out]; simpa using fun e : y = id => hy e
        case measure => simp [intOf]; omega
    · have hkl : k = xs.length := by omega
      have HX := Lib.hid (ixf_miss (xs := xs) (x := id) (fun j hj => HP.out j (by omega)))
      clear hkl
      go_wp2
      go_ret
      exact ⟨by rw [HX.out]; rfl, rfl⟩

def others (id : Int) (peers : List Int) : List Int := peers.filter (· ≠ id)

theorem others_take_snoc (id : Int) (xs : List Int) (j : Nat) (y : Int) (h : xs[j]? = some y) : others id (xs.take (j + 1)) = others id (xs.take j) ++ if y = id then [] else [y] := by
  unfold others
  rw [List.take_add_one, h, List.filter_append]
  by_cases hy : y = id <;> simp [hy]
theorem others_none (id : Int) (xs : List Int) (h : id ∉ xs) : others id xs = xs := by
  unfold others
  rw [List.filter_eq_self]
  intro x hx
  simp only [ne_eq, decide_not, Bool.not_eq_true', decide_eq_false_iff_not]
  exact fun e => h (e ▸ hx)
theorem others_take_first (id : Int) (xs : List Int) (k : Nat) (h : ∀ j, j < k → xs[j]? ≠ some id) : others id (xs.take k) = xs.take k := by
  refine others_none _ _ fun hm => ?_
  obtain ⟨j, hj, e⟩ := List.getElem_of_mem hm
  have hj' : j < k ∧ j < xs.length := by simp at hj; omega
  exact h j hj'.1 (by rw [List.getElem?_eq_getElem hj'.2]; simpa using e)
theorem ixf_first {xs : List Int} {x : Int} (h : x ∈ xs) : ∃ k : Nat, ixf xs x = k ∧ xs[k]? = some x ∧ ∀ j, j < k → xs[j]? ≠ some x := by
  refine ⟨xs.findIdx (· = x), by unfold ixf; rw [if_pos h], ?_, ?_⟩
  · have hl : xs.findIdx (· = x) < xs.length := List.findIdx_lt_length_of_exists ⟨x, h, by simp⟩
    rw [List.getElem?_eq_getElem hl]
    have := List.findIdx_getElem (w := hl)
    simpa using this
  · intro j hj e
    have := List.not_of_lt_findIdx hj
    have hjl : j < xs.length := (List.getElem?_eq_some_iff.1 e).1
    rw [List.getElem?_eq_getElem hjl] at e
    simp at e this
    exact this e

theorem zero3 : ∀ w, (zeroValue 3).run Tryz.prog w = .ok (.int .i64 0) w := fun w => by kernel_rfl

/-- 'clear(s)' at ints, the block known whole. -/
theorem run_clear_ints (w : World) (ty : TypeId) (g o n c : Nat) (cur : Array Value) (hg : w.heap[g]? = some (.cells cur 3 (0, 0))) (hn : 0 < n) (hl : o + n ≤ cur.size) :
    (Builtin.clear_ #[25] ty #[.slice (some ⟨g, o, none⟩) n c]).run Tryz.prog w = .ok (.tuple #[]) (w.setRow g (cur.toList.take o ++ List.replicate n (Value.int .i64 0) ++ cur.toList.drop (o + n)).toArray) := by
  have hz : (Value.int .i64 0).cells = #[.int .i64 0] := rfl
  have hzc : (Builtin.zeroCells (Value.int .i64 0).cells n).toList = List.replicate n (.int .i64 0) := by
    rw [hz]
    simp [Builtin.zeroCells]
    apply List.ext_getElem
    · simp
    · intro i h1 h2
      simp [Nat.mod_one]
  have hst := run_storeCells_at (P := Tryz.prog) g o 3 (List.replicate n (.int .i64 0)) 0 cur w hg (by simpa using hl) (by intro v hv'; rw [List.eq_of_mem_replicate hv']; rfl)
  simp only [Nat.add_zero, List.length_replicate] at hst
  obtain ⟨m, rfl⟩ : ∃ m, n = m + 1 := ⟨n - 1, by omega⟩
  simp [Builtin.clear_, run_underlying Tryz.underlying25, hzc, hst]

structure DInv (w wr : World) (ga n cp : Nat) (id : Int) (xs : List Int) (j : Nat) (i : Nat) (cur : Array Value) : Prop where
  blk : wr.heap[ga]? = some (.cells cur 3 (0, 0))
  size : cur.size = cp
  i_eq : i = (others id (xs.take j)).length
  lt : i < j
  front : ∀ (t : Nat) (x : Int), (others id (xs.take j))[t]? = some x → cur[t]? = some (.int .i64 x)
  back : ∀ (t : Nat) (x : Int), j ≤ t → xs[t]? = some x → cur[t]? = some (.int .i64 x)
  grown : w.grownBy wr (some ga)

theorem DInv.skip {w wr : World} {ga n cp : Nat} {id : Int} {xs : List Int} {j i : Nat} {cur : Array Value} (h : DInv w wr ga n cp id xs j i cur) (hx : xs[j]? = some id) : DInv w wr ga n cp id xs (j + 1) i cur := by
  have ho : others id (xs.take (j + 1)) = others id (xs.take j) := by rw [others_take_snoc id xs j id hx]; simp
  exact ⟨h.blk, h.size, by rw [ho]; exact h.i_eq, by have := h.lt; omega, by rw [ho]; exact h.front, fun t x ht hx => h.back t x (by omega) hx, h.grown⟩
theorem DInv.put {w wr : World} {ga n cp : Nat} {id y : Int} {xs : List Int} {j i : Nat} {cur : Array Value} (h : DInv w wr ga n cp id xs j i cur) (hx : xs[j]? = some y) (hy : y ≠ id) (hc : xs.length ≤ cp) : DInv w (wr.setCell ⟨ga, i, none⟩ (.int .i64 y)) ga n cp id xs (j + 1) (i + 1) (cur.setIfInBounds i (.int .i64 y)) := by
  have ho : others id (xs.take (j + 1)) = others id (xs.take j) ++ [y] := by rw [others_take_snoc id xs j y hx, if_neg hy]
  have hjl : j < xs.length := (List.getElem?_eq_some_iff.1 hx).1
  have hi := h.i_eq
  have hlt := h.lt
  have hsz := h.size
  refine ⟨block_setCell h.blk _, by simpa using h.size, by rw [ho]; simp [← hi], by omega, fun t x ht => ?_, fun t x ht hx => ?_, ⟨h.grown.os, h.grown.tape, h.grown.output, by have := h.grown.size; simp [World.setCell]; omega, fun k hk hn => (Below.heap_setCell _ _ _ _ (fun e => hn (by rw [e]))).trans (h.grown.block k hk hn)⟩⟩
  · rw [ho] at ht
    rw [Array.getElem?_setIfInBounds]
    rcases Nat.lt_trichotomy t i with h1 | h1 | h1
    · rw [if_neg (by omega)]
      rw [List.getElem?_append_left (by omega)] at ht
      exact h.front t x ht
    · subst h1
      rw [hi, List.getElem?_append_right (Nat.le_refl _)] at ht
      simp at ht
      subst ht
      rw [if_pos rfl, if_pos (by omega)]
    · rw [List.getElem?_append_right (by omega)] at ht
      rw [List.getElem?_eq_none (by simp; omega)] at ht
      cases ht
  · rw [Array.getElem?_setIfInBounds, if_neg (by omega)]
    exact h.back t x (by omega) hx
theorem DInv.last {w wr : World} {ga n cp : Nat} {id : Int} {xs : List Int} {j i m : Nat} {cur : Array Value} (h : DInv w wr ga n cp id xs j i cur) (hj : j = xs.length) (v : Value) : i = (others id xs).length ∧
    Row encI 1 (wr.setRow ga (cur.toList.take i ++ List.replicate m v ++ cur.toList.drop (i + m)).toArray) (wr.setRow ga (cur.toList.take i ++ List.replicate m v ++ cur.toList.drop (i + m)).toArray).heap.size (some ⟨ga, 0, none⟩) (others id xs) ∧
    w.grownBy (wr.setRow ga (cur.toList.take i ++ List.replicate m v ++ cur.toList.drop (i + m)).toArray) (some ga) := by
  have e : xs.take j = xs := List.take_of_length_le (by omega)
  have hi := h.i_eq
  rw [e] at hi
  have hlt := block_lt h.blk
  refine ⟨hi, .inr ⟨ga, 0, rfl, by simpa [World.setRow] using hlt, fun k x hk jj v' hv => ?_⟩, ⟨h.grown.os, h.grown.tape, h.grown.output, by have := h.grown.size; simp [World.setRow]; omega, fun k hk hn => ?_⟩⟩
  · have hkl : k < i := by rw [hi]; exact (List.getElem?_eq_some_iff.1 hk).1
    have hc := h.front k x (by rw [e]; exact hk)
    have hkc : k < cur.size := (Array.getElem?_eq_some_iff.1 hc).1
    have hj0 : jj = 0 := by have := (List.getElem?_eq_some_iff.1 hv).1; simp [encI] at this; omega
    subst hj0
    simp [encI] at hv
    subst hv
    refine cell_block (setRow_heap wr ga _ _ _ _ h.blk) _ _ ?_
    simp only [List.getElem?_toArray, Nat.zero_add, Nat.mul_one, Nat.add_zero]
    rw [List.append_assoc, List.getElem?_append_left (by simp; omega), List.getElem?_take, if_pos hkl]
    simpa using hc
  · rw [setRow_other wr ga k _ (fun e => hn (by rw [e]))]
    exact h.grown.block k hk hn

set_option maxRecDepth 100000 in
set_option maxHeartbeats 2000000 in
theorem deleteFunc_any (A : Option Addr) (n cp base : Nat) (xs : List Int) (id : Int) (g b : Nat) (w : World) (hown : Own encI 1 3 w base (.slice A n cp) xs) (hl : xs.length ≤ 1000000)
    (h1 : w.cell? ⟨g, 0, none⟩ = some (.pointer (some ⟨b, 0, none⟩))) (h2 : w.cell? ⟨b, 0, none⟩ = some (.int .i64 id)) (hne : ∀ k, (Value.slice A n cp).ownBlock = some k → g ≠ k ∧ b ≠ k) :
    Calls Tryz.prog 80 #[.slice A n cp, isId g] w fun e w' => ∃ A' c', e = .returned (.slice A' (others id xs).length c') ∧ Row encI 1 w' w'.heap.size A' (others id xs) ∧ w.grownBy w' (Value.slice A n cp).ownBlock := by
  obtain ⟨hn, hcap⟩ := Own.cap hown
  subst hn
  have hrow := hown.row len_I
  by_cases hm : id ∈ xs
  · obtain ⟨k0, hk0, hk1, hk2⟩ := ixf_first hm
    have hk0l : k0 < xs.length := (List.getElem?_eq_some_iff.1 hk1).1
    rcases hown.2 with ⟨_, h0⟩ | ⟨ga, cap, cur, hv, _, hg, hnc, hcm, hcs, htk⟩
    · omega
    injection hv with hA _ hc
    subst hA hc
    obtain ⟨hga, hba⟩ := hne ga rfl
    have hcur : ∀ (t : Nat) (x : Int), xs[t]? = some x → cur[t]? = some (.int .i64 x) := by
      intro t x ht
      have := flat_at len_I xs t 0 x ht (by omega)
      rw [← htk] at this
      simp only [Nat.mul_one, Nat.add_zero, encI] at this
      rw [List.getElem?_take] at this
      have htl : t < xs.length := (List.getElem?_eq_some_iff.1 ht).1
      rw [if_pos htl] at this
      simpa using this
    have hstart : DInv w w ga xs.length cp id xs (k0 + 1) k0 cur := by
      have ho : others id (xs.take (k0 + 1)) = xs.take k0 := by rw [others_take_snoc id xs k0 id hk1, others_take_first id xs k0 hk2]; simp
      refine ⟨hg, by simpa using hcs, by rw [ho]; simp; omega, by omega, fun t x ht => ?_, fun t x _ ht => hcur t x ht, World.grownBy.refl _ _⟩
      rw [ho, List.getElem?_take] at ht
      split at ht
      · exact hcur t x ht
      · cases ht
    have HK := Lib.hid hk0
    have HH := Lib.hid hstart
    have hk0b : ((k0 : Int) == -1) = false := by rw [beq_eq_false_iff_ne]; omega
    clear hk0 hk1 hk2 hstart hcur htk hcs hcm
    go_enter Tryz.func80, Tryz.ntmps80
    go_wp2_with (go_at_call 111; refine (indexFunc_any _ _ cp xs id g b _ hrow rfl hl h1 h2).mono ?_; rintro e w' ⟨rfl, rfl⟩; rw [HK.out])
    go_loopw [5, 6, 7] (fun i j _ wr => ∃ (jn iN : Nat) (cu : Array Value), j = .int .i64 jn ∧ i = .int .i64 iN ∧ jn ≤ xs.length ∧ DInv w' wr ga xs.length cp id xs jn iN cu) (fun _ j _ _ => xs.length - (intOf j).toNat)
    case atStart => exact ⟨k0 + 1, k0, cur, by go_num, rfl, by omega, HH.out⟩
    case round =>
      obtain ⟨jn, iN, cu, rfl, rfl, hjn, hI⟩ := hrel
      have hblk := hI.blk
      have hcsz := hI.size
      have hilt := hI.lt
      have c1 : wr.cell? ⟨g, 0, none⟩ = some (.pointer (some ⟨b, 0, none⟩)) := hI.grown.cell h1 (by simp; exact hga)
      have c2 : wr.cell? ⟨b, 0, none⟩ = some (.int .i64 id) := hI.grown.cell h2 (by simp; exact hba)
      have hf := frozen_block hblk
      by_cases hlt : jn < xs.length
      · have hxj := List.getElem?_eq_getElem hlt
        have cj := cell_block hblk jn _ (hI.back jn _ (Nat.le_refl _) hxj)
        have HX := Lib.hid hxj
        have HI := Lib.hid hI
        have HB := Lib.hid hblk
        clear hxj hI hblk
        generalize xs[jn] = y at cj HX
        by_cases hy : y = id
        · have hyb : (y == id) = true := by simpa using hy
          go_wp2_with (go_at_call 81; refine (isId_any _ _ g b _ c1 c2).mono ?_; rintro e w1 ⟨rfl, rfl⟩)
          subst hy
          have HS := Lib.hid (HI.out.skip HX.out)
          go_roundw
          case rel => exact ⟨jn + 1, iN, cu, by go_num, rfl, by omega, HS.out⟩
          case measure => simp [intOf]; omega
        · have hyb : (y == id) = false := by simpa using hy
          have HP := Lib.hid (HI.out.put HX.out hy (by omega))
          have ci := cell_block HB.out iN
          have hcs2 := hcsz
          obtain ⟨vi, hvi⟩ : ∃ vi, cu[iN]? = some vi := ⟨cu[iN]'(by omega), Array.getElem?_eq_getElem _⟩
          have ci := cell_block HB.out iN vi hvi
          clear hvi hcs2 hcsz
          go_wp2_with (go_at_call 81; refine (isId_any _ _ g b _ c1 c2).mono ?_; rintro e w1 ⟨rfl, rfl⟩)
          go_roundw
          case rel => exact ⟨jn + 1, iN + 1, _, by go_num, by go_num, by omega, HP.out⟩
          case measure => simp [intOf]; omega
      · have hje : jn = xs.length := by omega
        have hil : iN < xs.length := by omega
        have HC := fun (ty : TypeId) (c : Nat) => run_clear_ints wr ty ga iN (xs.length - iN) c cu hblk (by omega) (by omega)
        have HL := Lib.hid (hI.last hje (m := xs.length - iN) (.int .i64 0))
        have HI := Lib.hid hI
        have HB := Lib.hid hblk
        have hcn : (cp = iN) = False := by simp; omega
        clear hI hblk hcsz hje
        go_wp2
        go_ret
        exact ⟨some ⟨ga, 0, none⟩, cp, by rw [← HL.out.1]; rfl, by have := HL.out.2.1; rwa [List.append_assoc] at this, by have := HL.out.2.2; rwa [List.append_assoc] at this⟩
  · have HK := Lib.hid (show ixf xs id = -1 by unfold ixf; rw [if_neg hm])
    have HO := Lib.hid (others_none id xs hm)
    go_enter Tryz.func80, Tryz.ntmps80
    go_wp2_with (go_at_call 111; refine (indexFunc_any _ _ cp xs id g b _ hrow rfl hl h1 h2).mono ?_; rintro e w' ⟨rfl, rfl⟩; rw [HK.out])
    go_ret
    exact ⟨A, cp, by rw [HO.out]; rfl, by rw [HO.out]; exact hrow, World.grownBy.refl _ _⟩

set_option maxRecDepth 100000 in
set_option maxHeartbeats 1000000 in
theorem others_any (b : Nat) (s : NS) (c : NC) (w : World) (h : w.heap[b]? = some (.cells (ncells s c) 126 (0, 0))) (hp : Own encI 1 3 w 0 (.slice c.pA c.pn c.pc) c.peers) (hl : c.peers.length ≤ 7) :
    Calls Tryz.prog 59 #[.pointer (some ⟨b, 0, none⟩)] w fun e w' => ∃ A' c', e = .returned (.slice A' (others s.id c.peers).length c') ∧ Row encI 1 w' w'.heap.size A' (others s.id c.peers) ∧ Below w.heap.size w w' := by
  obtain ⟨hn, _⟩ := Own.cap hp
  obtain ⟨W0, hW0⟩ : ∃ W0 : World, W0 = w.alloc (.cells #[.pointer (some ⟨b, 0, none⟩)] 49) := ⟨_, rfl⟩
  have hb0 : Below w.heap.size w W0 := by rw [hW0]; exact (Below.refl _ _).alloc (Nat.le_refl _) _
  have B0 := Lib.hid (show W0.heap[w.heap.size]? = some (.cells #[.pointer (some ⟨b, 0, none⟩)] 49 (0, 0)) by rw [hW0]; exact World.alloc_at w _)
  have B1 := Lib.hid ((hb0.block b (block_lt h)).trans h)
  have hz0 : w.heap.size + 1 = W0.heap.size := by rw [hW0]; simp
  have hr0 : Row encI 1 W0 W0.heap.size c.pA c.peers := by rw [hn] at hp; exact ((hp.row len_I).below hb0).more hb0.size
  have hlt := block_lt h
  have c1 := nc1 h
  have HN := Lib.hid hn
  have HZ0 := Lib.hid hz0
  clear h hn hp hz0
  go_enter Tryz.func59, Tryz.ntmps59
  go_wp2_with (fail)
  rw [← hW0]
  clear hW0 c1
  refine (iclone_any c.pA _ c.pc c.peers _ hr0 HN.out (by omega)).mono ?_
  rintro e w1 ⟨v1, rfl, hown1, hb1⟩
  obtain ⟨A1, k1, rfl⟩ := hown1.form
  have D0 := Lib.hid ((hb1.block _ (block_lt B0.out)).trans B0.out)
  have D1 := Lib.hid ((hb1.block _ (block_lt B1.out)).trans B1.out)
  have hbb1 : Below w.heap.size w w1 := hb0.trans (hb1.mono hb0.size)
  have c0 := nc0 D1.out
  have d0 : w1.cell? ⟨w.heap.size, 0, none⟩ = some (.pointer (some ⟨b, 0, none⟩)) := cell_block D0.out 0 _ rfl
  have hlt0 : w.heap.size < W0.heap.size := by have := HZ0.out; omega
  clear B0 B1
  go_wp2_with (fail)
  refine (deleteFunc_any A1 _ k1 W0.heap.size c.peers s.id w.heap.size b _ hown1 (by omega) d0 c0 (fun k hk => by have := (hown1.lt k hk).1; omega)).mono ?_
  rintro e w2 ⟨A2, k2, rfl, hr2, hg2⟩
  go_wp2
  go_ret
  exact ⟨A2, k2, rfl, hr2, hbb1.grown hg2 hbb1.size (fun k hk => by have := (hown1.lt k hk).1; omega)⟩
end Go.Proofs.YtocogcgnahbpkaaGreat
