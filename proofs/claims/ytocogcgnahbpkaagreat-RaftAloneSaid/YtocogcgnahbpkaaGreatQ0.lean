/-
  An argument of type [][]byte, opened.
-/
import Derived.Test.YtocogcgnahbpkaaGreatN12
import Derived.ProofKit
import Derived.SizedLaws
import Derived.Deep.Matrix
namespace Go.Proofs.YtocogcgnahbpkaaGreat
open Go.ChangeShapes Go.WideShapes Go.RowKit Go.Deep

theorem weights_mem_all {H : Type} {P : Program} {e : TypeId} : ∀ {ds : List (DataW H)} {d : DataW H}, d ∈ ds → ∀ n ∈ d.weights P e, n ∈ DataW.weightsAll P e ds
  | [], _, hd, _, _ => nomatch hd
  | d0 :: r, d, hd, n, hn => by
    simp only [DataW.weightsAll, List.mem_append]
    rcases List.mem_cons.1 hd with rfl | hd
    · exact .inl hn
    · exact .inr (weights_mem_all hd n hn)

theorem cell_lt {W : World} {a : Addr} {v : Value} (h : W.cell? a = some v) : a.spot = none ∧ a.block < W.heap.size := by
  refine ⟨World.cell?_spot h, ?_⟩
  unfold World.cell? at h
  split at h
  · next hh => exact (Array.getElem?_eq_some_iff.1 hh).1
  · cases h

section
variable {H : Type} {enc : TypeId × Value → H}

theorem open_data {W : World} {held : Bool} {fuel : Nat} {cs : List Value} {x : DataW H × List MemPlace} (h : DataW.trod enc Tryz.prog W 0 (fun _ => true) held fuel 29 cs = some x) (hw : ∀ n ∈ x.1.weights Tryz.prog 29, n ≤ reachBytes) :
    ∃ (A : Option Addr) (c : Nat) (ds : List (BR × List Int)), cs = [.slice A ds.length c] ∧ DataS W (· < W.heap.size) A ds ∧ ds.length ≤ 140737488351232 := by
  rcases open_int_rows Tryz.underlying29 Tryz.underlying65 Tryz.underlying5 (by kernel_rfl) (by kernel_rfl) h with ⟨rfl, _⟩ | ⟨a, len, cap, A, L, C, Z, rfl, _, hlc, hcm, hx, hel⟩
  · exact ⟨none, 0, [], rfl, ⟨.inl rfl, fun p hp => nomatch hp⟩, by simp⟩
  · have hwn : (len + (cap - len)) * Tryz.prog.bytesOf 65 ≤ reachBytes := by
      refine hw _ ?_
      rw [hx]
      simp [DataW.weights, Tryz.underlying29]
    have hb65 : Tryz.prog.bytesOf 65 = 24 := by kernel_rfl
    have hb5 : Tryz.prog.bytesOf 5 = 1 := by kernel_rfl
    rw [hb65] at hwn
    have hC : ∀ r, r < len → C r ≤ reachBytes := by
      intro r hr
      rcases hA : A r with _ | a'
      · rw [(hel r (by omega)).2.2.2.2.2.1 hA]; exact Nat.zero_le _
      · have hz := (hel r (by omega)).2.2.2.1
        have hlc' := (hel r (by omega)).2.1
        refine hw _ ?_
        rw [hx]
        simp only [DataW.weights, Tryz.underlying29, List.mem_cons, List.mem_append]
        right; left
        refine weights_mem_all (d := intRow .u8 (A r) (L r) (Z r)) (List.mem_map.2 ⟨r, List.mem_range.2 hr, rfl⟩) _ ?_
        rw [hA]
        simp [intRow, DataW.weights, Tryz.underlying65, hb5, lits, hz]
        left; omega
    unfold reachBytes at hwn hC
    refine ⟨some a, cap, (List.range len).map fun r => (⟨A r, L r, C r⟩, (Z r).take (L r)), by simp, ⟨?_, fun p hp => ?_⟩, by simp; omega⟩
    · rcases Nat.eq_zero_or_pos len with h0 | h0
      · subst h0; exact .inl rfl
      · have hc0 := (hel 0 (by omega)).1
        obtain ⟨hs, hl⟩ := cell_lt hc0
        obtain ⟨b, o, spot⟩ := a
        simp only [Addr.add] at hs hl
        subst hs
        refine .inr ⟨b, o, rfl, hl, fun k y hk j v hv => ?_⟩
        rw [List.map_map, List.getElem?_map] at hk
        have hkl : k < len := by
          rcases Nat.lt_or_ge k len with h | h
          · exact h
          · rw [List.getElem?_eq_none (by simpa using h)] at hk; cases hk
        rw [List.getElem?_range hkl] at hk
        simp only [Option.map_some, Option.some.injEq, Function.comp] at hk
        subst hk
        have hj : j = 0 := by have := (List.getElem?_eq_some_iff.1 hv).1; simp [encBR] at this; exact this
        subst hj
        simp [encBR] at hv
        subst hv
        have := (hel k (by omega)).1
        rw [Addr.add_lit] at this
        simpa using this
    · obtain ⟨r, hr, rfl⟩ := List.mem_map.1 hp
      have hr' := List.mem_range.1 hr
      obtain ⟨_, h1, _, h3, _, h5, h6⟩ := hel r (by omega)
      have hCr := hC r hr'
      have hlen : ((Z r).take (L r)).length = L r := by rw [List.length_take, h3]; omega
      refine ⟨?_, hlen.symm, by simp only; omega⟩
      rcases Nat.eq_zero_or_pos (L r) with h0 | h0
      · exact .inl (by simp [h0])
      · rcases hA : A r with _ | a'
        · have := h5 hA; omega
        · obtain ⟨_, hc⟩ := h6 a' hA
          obtain ⟨hs, hl⟩ := cell_lt (hc 0 (by omega))
          obtain ⟨b, o, spot⟩ := a'
          simp only [Addr.add] at hs hl
          subst hs
          refine .inr ⟨b, o, rfl, hl, fun k y hk j v hv => ?_⟩
          have hkl : k < L r := by have h9 : k < ((Z r).take (L r)).length := (List.getElem?_eq_some_iff.1 hk).1; omega
          have hj : j = 0 := by have := (List.getElem?_eq_some_iff.1 hv).1; simp [encB] at this; exact this
          subst hj
          simp [encB] at hv
          subst hv
          have h7 := hc k (by omega)
          have h8 : (Z r).getD k 0 = y := by
            rw [List.getElem?_take, if_pos hkl] at hk
            simp [List.getD, hk]
          rw [h8, Addr.add_lit] at h7
          simpa using h7
end
end Go.Proofs.YtocogcgnahbpkaaGreat
