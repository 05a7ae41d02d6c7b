/-
  The arguments opened: [][]byte, []api.Family, api.ClusterConfig.
-/
import Derived.Test.YtjoaldaldcpfeaaGreatDoorG2
import Derived.ProofKit
import Derived.SizedLaws
import Derived.Deep.Matrix
import Derived.Deep.Slices
import Derived.Deep.Fields
import Derived.Lib.SmallJoins
namespace Go.Proofs.YtjoaldaldcpfeaaGreatDoor
open Go.ChangeShapes Go.WideShapes Go.RowKit Go.Deep

theorem weights_mem_all {H : Type} {P : Program} {e : TypeId} : ∀ {ds : List (DataW H)} {d : DataW H}, d ∈ ds → ∀ n ∈ d.weights P e, n ∈ DataW.weightsAll P e ds
  | [], _, hd, _, _ => nomatch hd
  | d0 :: r, d, hd, n, hn => by
    simp only [DataW.weightsAll, List.mem_append]
    rcases List.mem_cons.1 hd with rfl | hd
    · exact .inl hn
    · exact .inr (weights_mem_all hd n hn)

theorem cell_lt {W : World} {a : Addr} {v : Value} (h : W.cell? a = some v) : a.spot = none ∧ a.block < W.heap.size := by
  refine ⟨World.cell?_spot h, ?_⟩
  unfold World.cell? at h
  split at h
  · next hh => exact (Array.getElem?_eq_some_iff.1 hh).1
  · cases h

section
variable {H : Type} {enc : TypeId × Value → H}

theorem open_rows2 {W : World} {held : Bool} {fuel : Nat} {cs : List Value} {x : DataW H × List MemPlace} (h : DataW.trod enc Tryz.prog W 0 (fun _ => true) held fuel 25 cs = some x) (hw : ∀ n ∈ x.1.weights Tryz.prog 25, n ≤ reachBytes) :
    ∃ (A : Option Addr) (c : Nat) (ds : List (BR × List Int)), cs = [.slice A ds.length c] ∧ Rows2 W W.heap.size A ds ∧ ds.length ≤ 140737488351232 := by
  rcases open_int_rows Tryz.underlying25 Tryz.underlying48 Tryz.underlying5 (by kernel_rfl) (by kernel_rfl) h with ⟨rfl, _⟩ | ⟨a, len, cap, A, L, C, Z, rfl, _, hlc, hcm, hx, hel⟩
  · exact ⟨none, 0, [], rfl, ⟨.inl rfl, fun p hp => nomatch hp⟩, by simp⟩
  · have hwn : (len + (cap - len)) * Tryz.prog.bytesOf 48 ≤ reachBytes := by
      refine hw _ ?_
      rw [hx]
      simp [DataW.weights, Tryz.underlying25]
    have hb48 : Tryz.prog.bytesOf 48 = 24 := by kernel_rfl
    have hb5 : Tryz.prog.bytesOf 5 = 1 := by kernel_rfl
    rw [hb48] at hwn
    have hC : ∀ r, r < len → C r ≤ reachBytes := by
      intro r hr
      rcases hA : A r with _ | a'
      · rw [(hel r (by omega)).2.2.2.2.2.1 hA]; exact Nat.zero_le _
      · have hz := (hel r (by omega)).2.2.2.1
        have hlc' := (hel r (by omega)).2.1
        refine hw _ ?_
        rw [hx]
        simp only [DataW.weights, Tryz.underlying25, List.mem_cons, List.mem_append]
        right; left
        refine weights_mem_all (d := intRow .u8 (A r) (L r) (Z r)) (List.mem_map.2 ⟨r, List.mem_range.2 hr, rfl⟩) _ ?_
        rw [hA]
        simp [intRow, DataW.weights, Tryz.underlying48, hb5, lits, hz]
        left; omega
    unfold reachBytes at hwn hC
    refine ⟨some a, cap, (List.range len).map fun r => (⟨A r, L r, C r⟩, (Z r).take (L r)), by simp, ⟨?_, fun p hp => ?_⟩, by simp; omega⟩
    · rcases Nat.eq_zero_or_pos len with h0 | h0
      · subst h0; exact .inl rfl
      · have hc0 := (hel 0 (by omega)).1
        obtain ⟨hs, hl⟩ := cell_lt hc0
        obtain ⟨b, o, spot⟩ := a
        simp only [Addr.add] at hs hl
        subst hs
        refine .inr ⟨b, o, rfl, hl, fun k y hk j v hv => ?_⟩
        rw [List.map_map, List.getElem?_map] at hk
        have hkl : k < len := by
          rcases Nat.lt_or_ge k len with h | h
          · exact h
          · rw [List.getElem?_eq_none (by simpa using h)] at hk; cases hk
        rw [List.getElem?_range hkl] at hk
        simp only [Option.map_some, Option.some.injEq, Function.comp] at hk
        subst hk
        have hj : j = 0 := by have := (List.getElem?_eq_some_iff.1 hv).1; simp [encBR] at this; exact this
        subst hj
        simp [encBR] at hv
        subst hv
        have := (hel k (by omega)).1
        rw [Addr.add_lit] at this
        simpa using this
    · obtain ⟨r, hr, rfl⟩ := List.mem_map.1 hp
      have hr' := List.mem_range.1 hr
      obtain ⟨_, h1, _, h3, _, h5, h6⟩ := hel r (by omega)
      have hCr := hC r hr'
      have hlen : ((Z r).take (L r)).length = L r := by rw [List.length_take, h3]; omega
      refine ⟨?_, hlen.symm, by simp only; omega⟩
      rcases Nat.eq_zero_or_pos (L r) with h0 | h0
      · exact .inl (by simp [h0])
      · rcases hA : A r with _ | a'
        · have := h5 hA; omega
        · obtain ⟨_, hc⟩ := h6 a' hA
          obtain ⟨hs, hl⟩ := cell_lt (hc 0 (by omega))
          obtain ⟨b, o, spot⟩ := a'
          simp only [Addr.add] at hs hl
          subst hs
          refine .inr ⟨b, o, rfl, hl, fun k y hk j v hv => ?_⟩
          have hkl : k < L r := by have h9 : k < ((Z r).take (L r)).length := (List.getElem?_eq_some_iff.1 hk).1; omega
          have hj : j = 0 := by have := (List.getElem?_eq_some_iff.1 hv).1; simp [encB] at this; exact this
          subst hj
          simp [encB] at hv
          subst hv
          have h7 := hc k (by omega)
          have h8 : (Z r).getD k 0 = y := by
            rw [List.getElem?_take, if_pos hkl] at hk
            simp [List.getD, hk]
          rw [h8, Addr.add_lit] at h7
          simpa using h7

theorem one_slice {W : World} {sp : Nat → Bool} {hd : Bool} {fuel : Nat} {t e : TypeId} {v : Value} {y : DataW H × List MemPlace} (ht : Tryz.prog.underlying t = some (.slice e)) (h : DataW.trod enc Tryz.prog W 0 sp hd fuel t [v] = some y) : ∃ a n c, v = .slice a n c := by
  rcases open_slice ht h with ⟨hcs, _⟩ | ⟨a, len, cap, m, n, D, Pl, hcs, _⟩
  · injection hcs with hcs _; exact ⟨_, _, _, hcs⟩
  · injection hcs with hcs _; exact ⟨_, _, _, hcs⟩
theorem one_int {W : World} {sp : Nat → Bool} {hd : Bool} {fuel : Nat} {v : Value} {y : DataW H × List MemPlace} (h : DataW.trod enc Tryz.prog W 0 sp hd fuel 3 [v] = some y) : ∃ n, v = .int .i64 n := by
  obtain ⟨n, e, _, _⟩ := DataW.trod_int Tryz.underlying3 h
  injection e with e _
  exact ⟨n, e⟩
theorem c3 : Tryz.prog.cellsOf 3 = 1 := by kernel_rfl
theorem c9 : Tryz.prog.cellsOf 9 = 1 := by kernel_rfl
theorem c22 : Tryz.prog.cellsOf 22 = 1 := by kernel_rfl
theorem c24 : Tryz.prog.cellsOf 24 = 1 := by kernel_rfl
theorem c25 : Tryz.prog.cellsOf 25 = 1 := by kernel_rfl
theorem c26 : Tryz.prog.cellsOf 26 = 1 := by kernel_rfl
theorem c28 : Tryz.prog.cellsOf 28 = 6 := by kernel_rfl
theorem c30 : Tryz.prog.cellsOf 30 = 4 := by kernel_rfl
theorem c32 : Tryz.prog.cellsOf 32 = 3 := by kernel_rfl
theorem c34 : Tryz.prog.cellsOf 34 = 14 := by kernel_rfl
theorem c36 : Tryz.prog.cellsOf 36 = 18 := by kernel_rfl
theorem c66 : Tryz.prog.cellsOf 66 = 3 := by kernel_rfl

set_option maxRecDepth 100000 in
theorem fam_value {W : World} {sp : Nat → Bool} {hd : Bool} {fuel : Nat} {cs : List Value} {y : DataW H × List MemPlace} (hl : cs.length = 3) (h : DataW.trod enc Tryz.prog W 0 sp hd fuel 66 cs = some y) : ∃ f : FM, cs = encFM f := by
  obtain ⟨xs, n, _, _, _, hlen, hg⟩ := DataW.trod_struct Tryz.underlying66 h
  match cs, hl, xs, hlen, hg with
  | [v0, v1, v2], _, [y0, y1, y2], _, hg =>
    obtain ⟨s, e0, _, _⟩ := DataW.trod_string (x := y0) Tryz.underlying9 (by simpa [c9] using hg 0 _ rfl)
    injection e0 with e0 _
    obtain ⟨n1, rfl⟩ := one_int (y := y1) (by simpa [c3] using hg 1 _ rfl)
    obtain ⟨n2, rfl⟩ := one_int (y := y2) (by simpa [c3] using hg 2 _ rfl)
    exact ⟨⟨s, n1, n2⟩, by rw [e0]; rfl⟩

theorem open_fams {W : World} {sp : Nat → Bool} {hd : Bool} {fuel : Nat} {cs : List Value} {x : DataW H × List MemPlace} (h : DataW.trod enc Tryz.prog W 0 sp hd fuel 22 cs = some x) (hw : ∀ n ∈ x.1.weights Tryz.prog 22, n ≤ reachBytes) :
    ∃ (A : Option Addr) (c : Nat) (fs : List FM), cs = [.slice A fs.length c] ∧ Row encFM 3 W W.heap.size A fs ∧ fs.length ≤ 4611686018427387904 := by
  rcases open_slice Tryz.underlying22 h with ⟨hcs, _⟩ | ⟨a, len, cap, m, n, D, Pl, hcs, _, hlc, hcm, hm, hx, hel⟩
  · exact ⟨none, 0, [], hcs, Row.nil, by simp⟩
  · have hlm : len ≤ m := by rw [hm]; split <;> omega
    have key : ∀ i : Nat, ∃ f : FM, i < len → ∀ j v, (encFM f)[j]? = some v → W.cell? (a.add (i * 3 + j)) = some v := by
      intro i
      by_cases hi : i < len
      · obtain ⟨cs', hc, ht⟩ := hel i (by omega)
        rw [c66] at hc
        obtain ⟨_, hcl, hat⟩ := World.cells?_some hc
        obtain ⟨f, rfl⟩ := fam_value hcl ht
        refine ⟨f, fun _ j v hv => ?_⟩
        have hj : j < 3 := by rw [← len_FM f]; exact (List.getElem?_eq_some_iff.1 hv).1
        have := hat j hj
        rw [hv, Go.Deep.add_add] at this
        exact this
      · exact ⟨⟨.empty, 0, 0⟩, fun h => absurd h hi⟩
    let X : Nat → FM := fun i => Classical.choose (key i)
    have hX : ∀ i, i < len → ∀ j v, (encFM (X i))[j]? = some v → W.cell? (a.add (i * 3 + j)) = some v := fun i => Classical.choose_spec (key i)
    have hxl : ((List.range len).map X).length = len := by simp
    have hwn : (len + (m - len)) * Tryz.prog.bytesOf 66 ≤ reachBytes := by
      refine hw _ ?_
      rw [hx]
      simp [DataW.weights, Tryz.underlying22]
    have hb66 : Tryz.prog.bytesOf 66 = 32 := by kernel_rfl
    rw [hb66] at hwn
    unfold reachBytes at hwn
    refine ⟨some a, cap, (List.range len).map X, by rw [hxl]; exact hcs, ?_, by rw [hxl]; omega⟩
    rcases Nat.eq_zero_or_pos len with h0 | h0
    · subst h0; exact .inl rfl
    · have hc0 := hX 0 h0 0 _ rfl
      obtain ⟨hs, hbl⟩ := cell_lt hc0
      obtain ⟨b, o, spot⟩ := a
      have hspot : spot = none := by simpa [Addr.add] using hs
      subst hspot
      refine .inr ⟨b, o, rfl, by simpa [Addr.add] using hbl, fun k y hk j v hv => ?_⟩
      rw [List.getElem?_map] at hk
      have hkl : k < len := by
        rcases Nat.lt_or_ge k len with h | h
        · exact h
        · rw [List.getElem?_eq_none (by simpa using h)] at hk; cases hk
      rw [List.getElem?_range hkl] at hk
      simp only [Option.map_some, Option.some.injEq] at hk
      subst hk
      have := hX k hkl j v hv
      rw [Addr.add_lit, ← Nat.add_assoc] at this
      exact this

theorem raft_value {W : World} {sp : Nat → Bool} {hd : Bool} {fuel : Nat} {v0 v1 v2 v3 v4 v5 : Value} {y : DataW H × List MemPlace} (h : DataW.trod enc Tryz.prog W 0 sp hd fuel 28 [v0, v1, v2, v3, v4, v5] = some y) :
    ∃ a A n c l m b k, v0 = .int .i64 a ∧ v1 = .slice A n c ∧ v2 = .int .i64 l ∧ v3 = .int .i64 m ∧ v4 = .int .i64 b ∧ v5 = .int .i64 k := by
  obtain ⟨xs, n, _, _, _, hlen, hg⟩ := DataW.trod_struct Tryz.underlying28 h
  match xs, hlen, hg with
  | [y0, y1, y2, y3, y4, y5], _, hg =>
    obtain ⟨a, rfl⟩ := one_int (y := y0) (by simpa [c3] using hg 0 _ rfl)
    obtain ⟨A, n1, k1, rfl⟩ := one_slice (y := y1) Tryz.underlying26 (by simpa [c26] using hg 1 _ rfl)
    obtain ⟨l, rfl⟩ := one_int (y := y2) (by simpa [c3] using hg 2 _ rfl)
    obtain ⟨m, rfl⟩ := one_int (y := y3) (by simpa [c3] using hg 3 _ rfl)
    obtain ⟨b, rfl⟩ := one_int (y := y4) (by simpa [c3] using hg 4 _ rfl)
    obtain ⟨k, rfl⟩ := one_int (y := y5) (by simpa [c3] using hg 5 _ rfl)
    exact ⟨a, A, n1, k1, l, m, b, k, rfl, rfl, rfl, rfl, rfl, rfl⟩
theorem tree_value {W : World} {sp : Nat → Bool} {hd : Bool} {fuel : Nat} {v0 v1 v2 v3 : Value} {y : DataW H × List MemPlace} (h : DataW.trod enc Tryz.prog W 0 sp hd fuel 30 [v0, v1, v2, v3] = some y) :
    ∃ a b c d, v0 = .int .i64 a ∧ v1 = .int .i64 b ∧ v2 = .int .i64 c ∧ v3 = .int .i64 d := by
  obtain ⟨xs, n, _, _, _, hlen, hg⟩ := DataW.trod_struct Tryz.underlying30 h
  match xs, hlen, hg with
  | [y0, y1, y2, y3], _, hg =>
    obtain ⟨a, rfl⟩ := one_int (y := y0) (by simpa [c3] using hg 0 _ rfl)
    obtain ⟨b, rfl⟩ := one_int (y := y1) (by simpa [c3] using hg 1 _ rfl)
    obtain ⟨c, rfl⟩ := one_int (y := y2) (by simpa [c3] using hg 2 _ rfl)
    obtain ⟨d, rfl⟩ := one_int (y := y3) (by simpa [c3] using hg 3 _ rfl)
    exact ⟨a, b, c, d, rfl, rfl, rfl, rfl⟩
theorem pol_value {W : World} {sp : Nat → Bool} {hd : Bool} {fuel : Nat} {v0 v1 v2 : Value} {y : DataW H × List MemPlace} (h : DataW.trod enc Tryz.prog W 0 sp hd fuel 32 [v0, v1, v2] = some y) :
    ∃ a b c, v0 = .int .i64 a ∧ v1 = .int .i64 b ∧ v2 = .int .i64 c := by
  obtain ⟨xs, n, _, _, _, hlen, hg⟩ := DataW.trod_struct Tryz.underlying32 h
  match xs, hlen, hg with
  | [y0, y1, y2], _, hg =>
    obtain ⟨a, rfl⟩ := one_int (y := y0) (by simpa [c3] using hg 0 _ rfl)
    obtain ⟨b, rfl⟩ := one_int (y := y1) (by simpa [c3] using hg 1 _ rfl)
    obtain ⟨c, rfl⟩ := one_int (y := y2) (by simpa [c3] using hg 2 _ rfl)
    exact ⟨a, b, c, rfl, rfl, rfl⟩
theorem rep_value {W : World} {sp : Nat → Bool} {hd : Bool} {fuel : Nat} {v0 v1 v2 v3 v4 v5 v6 v7 v8 v9 v10 v11 v12 v13 : Value} {y : DataW H × List MemPlace} (h : DataW.trod enc Tryz.prog W 0 sp hd fuel 34 [v0, v1, v2, v3, v4, v5, v6, v7, v8, v9, v10, v11, v12, v13] = some y) :
    ∃ r : RC, [v0, v1, v2, v3, v4, v5, v6, v7, v8, v9, v10, v11, v12, v13] = r.cells.toList := by
  obtain ⟨xs, n, _, _, _, hlen, hg⟩ := DataW.trod_struct Tryz.underlying34 h
  match xs, hlen, hg with
  | [y0, y1, y2, y3], _, hg =>
    obtain ⟨a, A, n1, k1, l, m, b, k, rfl, rfl, rfl, rfl, rfl, rfl⟩ := raft_value (y := y0) (by simpa [c28] using hg 0 _ rfl)
    obtain ⟨t0, t1, t2, t3, rfl, rfl, rfl, rfl⟩ := tree_value (y := y1) (by simpa [c30] using hg 1 _ rfl)
    obtain ⟨p0, p1, p2, rfl, rfl, rfl⟩ := pol_value (y := y2) (by simpa [c32] using hg 2 _ rfl)
    obtain ⟨s, rfl⟩ := one_int (y := y3) (by simpa [c3] using hg 3 _ rfl)
    exact ⟨⟨a, A, n1, k1, l, m, b, k, t0, t1, t2, t3, p0, p1, p2, s⟩, rfl⟩

set_option maxRecDepth 100000 in
/-- A cluster's configuration, opened. -/
theorem open_cfg {W : World} {fuel : Nat} {cs : List Value} {x : DataW H × List MemPlace} (hl : cs.length = 18) (h : DataW.trod enc Tryz.prog W 0 (fun _ => true) true fuel 36 cs = some x) (hw : ∀ n ∈ x.1.weights Tryz.prog 36, n ≤ reachBytes) :
    ∃ (c : CF) (fs : List FM) (ps : List (BR × List Int)), cs = c.cells.toList ∧ CFAt W c fs ps := by
  obtain ⟨xs, n, _, hx, _, hlen, hg⟩ := DataW.trod_struct Tryz.underlying36 h
  match cs, hl, xs, hlen, hg, hx with
  | [v0, v1, v2, v3, v4, v5, v6, v7, v8, v9, v10, v11, v12, v13, v14, v15, v16, v17], _, [y0, y1, y2, y3, y4], _, hg, hx =>
    obtain ⟨a, rfl⟩ := one_int (y := y0) (by simpa [c3] using hg 0 _ rfl)
    obtain ⟨b, rfl⟩ := one_int (y := y1) (by simpa [c3] using hg 1 _ rfl)
    have h2 : DataW.trod enc Tryz.prog W 0 (fun _ => true) true n 24 [v2] = some y2 := by simpa [c24] using hg 2 _ rfl
    have h3 : DataW.trod enc Tryz.prog W 0 (fun _ => true) true n 25 [v3] = some y3 := by simpa [c25] using hg 3 _ rfl
    have h4 : DataW.trod enc Tryz.prog W 0 (fun _ => true) true n 34 [v4, v5, v6, v7, v8, v9, v10, v11, v12, v13, v14, v15, v16, v17] = some y4 := by simpa [c34] using hg 4 _ rfl
    obtain ⟨r, hr⟩ := rep_value h4
    obtain ⟨zs, n2, _, hx2, _, hlen2, hg2⟩ := DataW.trod_struct Tryz.underlying24 h2
    match zs, hlen2, hg2, hx2 with
    | [z0], _, hg2, hx2 =>
      obtain ⟨A, c, fs, hcs, hrow, hfl⟩ := open_fams (x := z0) (show DataW.trod enc Tryz.prog W 0 (fun _ => true) true n2 22 [v2] = some z0 by simpa [c22] using hg2 0 _ rfl) (fun m hm => hw m (by
        rw [hx]
        simp only [DataW.weights, Tryz.underlying36, List.map_cons, List.map_nil]
        rw [hx2]
        simp [DataW.weightsEach, DataW.weights, Tryz.underlying24, hm]))
      injection hcs with hcs _
      obtain ⟨sA, sc, ps, hcs3, hrows, hsl⟩ := open_rows2 h3 (fun m hm => hw m (by
        rw [hx]
        simp only [DataW.weights, Tryz.underlying36, List.map_cons, List.map_nil]
        simp [DataW.weightsEach, hm]))
      injection hcs3 with hcs3 _
      refine ⟨⟨a, b, A, fs.length, c, sA, ps.length, sc, r⟩, fs, ps, ?_, ⟨hrow, rfl, hfl, hrows, rfl, by omega⟩⟩
      rw [hcs, hcs3]
      have : ∀ (l : List Value) (p q u z : Value), l = r.cells.toList → p :: q :: u :: z :: l = (CF.mk a b A fs.length c sA ps.length sc r).cells.toList → True := fun _ _ _ _ _ _ _ => trivial
      simp only [CF.cells, RC.cells] at hr ⊢
      simp only [List.cons.injEq, and_true, true_and] at hr ⊢
      exact hr
end
end Go.Proofs.YtjoaldaldcpfeaaGreatDoor
