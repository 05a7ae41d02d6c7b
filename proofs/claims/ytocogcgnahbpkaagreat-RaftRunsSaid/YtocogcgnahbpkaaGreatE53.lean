/-
  RaftRuns: for every nodes, least, more, beat, batch and every script the law returns true, and its arguments read behind the call as they did. No condition.
-/
import Derived.ProofKit
import Derived.SizedLaws
import Derived.Deep.Matrix
import Derived.Deep.Slices
import Derived.Deep.Fields
import Derived.Test.YtocogcgnahbpkaaGreatRows
import Derived.Lib.SmallJoins
import Derived.Test.YtocogcgnahbpkaaGreatE43
import Derived.Test.YtocogcgnahbpkaaGreatE52
namespace Go.SL
open Go.Proofs Go.Proofs.YtocogcgnahbpkaaGreat
open Go.ChangeShapes Go.WideShapes Go.RowKit Go.Deep
def AllW (W : World) : HP := fun r => ∀ i x, xob W i = some x → ∃ q, r i = some (q, x)
theorem allW_sat (W : World) (n : Nat) : Sat W (List.replicate n (AllW W)) := by
  refine ⟨fun i => (xob W i).map fun x => (false, x), fun i q x h => ?_, ?_⟩
  · cases e : xob W i with
    | none => simp only [e] at h; cases h
    | some y => simp only [e] at h; injection h with h; injection h with _ h; rw [h]
  · induction n with
    | zero => trivial
    | succ n ih =>
      refine ⟨_, _, .refl _, .refl _, fun i q x q' x' h h' => ?_, fun i x h => ⟨false, by simp only [h]; rfl⟩, ih⟩
      cases e : xob W i with
      | none => simp only [e] at h; cases h
      | some y => simp only [e] at h h'; injection h with h; injection h' with h'; injection h with h; injection h' with h'; exact ⟨h.symm, h'.symm⟩
theorem AllW.grows {W w' : World} {L : List HP} (h : Sat w' (AllW W :: L)) : Grows W w' := fun i x e => by
  obtain ⟨r, a, r1, r2, x1, y, z, d, _⟩ := h
  obtain ⟨q, hq⟩ := d i x e
  obtain ⟨q', h', _⟩ := x1 i q x hq
  exact a i q' x h'
theorem AllW.below {W w' : World} {L : List HP} (h : Sat w' (AllW W :: L)) : Below W.heap.size W w' := by
  have g := AllW.grows h
  have hn := g none _ rfl
  injection hn with hn
  injection hn with h1 h2 h3
  have hb : ∀ k, k < W.heap.size → w'.heap[k]? = W.heap[k]? := fun k hk => by
    have := g.at (b := k) (o := W.heap[k]) (by rw [Array.getElem?_eq_getElem hk])
    rw [this, Array.getElem?_eq_getElem hk]
  refine ⟨h1, h2, h3, ?_, hb⟩
  rcases Nat.eq_zero_or_pos W.heap.size with h0 | h0
  · omega
  · have h5 := hb (W.heap.size - 1) (by omega)
    rw [Array.getElem?_eq_getElem (show W.heap.size - 1 < W.heap.size by omega)] at h5
    have h6 := (Array.getElem?_eq_some_iff.1 h5).1
    omega
theorem allW_reads {W : World} {A : Option Addr} {cs : List Value} (h : cs ≠ [] → ∃ a, A = some a ∧ ∀ j v, cs[j]? = some v → W.cell? (a.add j) = some v) : Reads (AllW W) A cs := fun r hr => by
  by_cases hc : cs = []
  · exact .inl hc
  · obtain ⟨⟨b, off, spot⟩, rfl, ha⟩ := h hc
    have hpos : 0 < cs.length := List.length_pos_iff.2 hc
    have h0 := ha 0 cs[0] (List.getElem?_eq_getElem hpos)
    have hs := World.cell?_spot h0
    have hs : spot = none := by simpa [Addr.add] using hs
    subst hs
    rw [Addr.add_lit] at h0
    unfold World.cell? at h0
    split at h0
    · next c E fz hb =>
      have hb : W.heap[b]? = some (.cells c E fz) := hb
      have hcell : ∀ j v, cs[j]? = some v → c[off + j]? = some v := fun j v hj => by
        have h1 := ha j v hj
        rw [Addr.add_lit] at h1
        unfold World.cell? at h1
        rw [show W.heap[b]? = some (.cells c E fz) from hb] at h1
        simpa using h1
      refine .inr ⟨b, off, E, fz, c.toList.take off, c.toList.drop (off + cs.length), rfl, ?_, ?_⟩
      · have := (Array.getElem?_eq_some_iff.1 (hcell 0 cs[0] (List.getElem?_eq_getElem hpos))).1
        rw [List.length_take, Array.length_toList]; omega
      · obtain ⟨q, hq⟩ := hr (some b) _ (xob_at hb)
        have e : (c.toList.take off ++ cs ++ c.toList.drop (off + cs.length)).toArray = c := by
          have hl : off + cs.length ≤ c.size := by
            have := (Array.getElem?_eq_some_iff.1 (hcell (cs.length - 1) cs[cs.length - 1] (List.getElem?_eq_getElem (by omega)))).1
            omega
          have e2 : cs = (c.toList.drop off).take cs.length := by
            apply List.ext_getElem?
            intro j
            by_cases hj : j < cs.length
            · rw [List.getElem?_take_of_lt hj, List.getElem?_drop, show c.toList[off + j]? = c[off + j]? by simp, hcell j cs[j] (List.getElem?_eq_getElem hj), List.getElem?_eq_getElem hj]
            · rw [List.getElem?_eq_none (by omega), List.getElem?_eq_none (by rw [List.length_take]; omega)]
          have e3 : c.toList.take off ++ cs ++ c.toList.drop (off + cs.length) = c.toList := by
            rw [e2, List.append_assoc]
            have e5 : c.toList.length = c.size := by simp
            have e4 : (List.take cs.length (List.drop off c.toList)).length = cs.length := by rw [List.length_take, List.length_drop, e5]; omega
            rw [e4, ← List.drop_drop, List.take_append_drop, List.take_append_drop]
          rw [e3]
        rw [e]
        exact ⟨q, hq, fun h => nomatch h⟩
    · cases h0
theorem weights_mem_all {H : Type} {P : Program} {e : TypeId} : ∀ {ds : List (DataW H)} {d : DataW H}, d ∈ ds → ∀ n ∈ d.weights P e, n ∈ DataW.weightsAll P e ds
  | [], _, hd, _, _ => nomatch hd
  | d0 :: r, d, hd, n, hn => by
    simp only [DataW.weightsAll, List.mem_append]
    rcases List.mem_cons.1 hd with rfl | hd
    · exact .inl hn
    · exact .inr (weights_mem_all hd n hn)
theorem add_add0 (a : Addr) : a.add 0 = a := by cases a; simp [Addr.add]
section
variable {H : Type} {enc : TypeId × Value → H}
structure LbsOk (W : World) (A : Option Addr) (lbs : List LB) : Prop where
  X : Reads (AllW W) A (lbs.map vB)
  D : DReadB (AllW W) lbs
  h24 : lbs.length * 24 ≤ 140737488351232
  ld : ∀ x ∈ lbs, x.data.length ≤ 140737488351232
theorem open_lbs {W : World} {held : Bool} {fuel : Nat} {cs : List Value} {x : DataW H × List MemPlace} (h : DataW.trod enc Tryz.prog W 0 (fun _ => true) held fuel 29 cs = some x) (hw : ∀ n ∈ x.1.weights Tryz.prog 29, n ≤ reachBytes) :
    ∃ (A : Option Addr) (c : Nat) (lbs : List LB), cs = [.slice A lbs.length c] ∧ LbsOk W A lbs := by
  rcases open_int_rows Tryz.underlying29 Tryz.underlying65 Tryz.underlying5 (by kernel_rfl) (by kernel_rfl) h with ⟨rfl, _⟩ | ⟨a, len, cap, A, L, C, Z, rfl, _, hlc, hcm, hx, hel⟩
  · exact ⟨none, 0, [], rfl, allW_reads fun h => absurd rfl h, (fun _ _ _ h => nomatch h), by simp, fun _ h => nomatch h⟩
  · have hwn : (len + (cap - len)) * Tryz.prog.bytesOf 65 ≤ reachBytes := by
      refine hw _ ?_
      rw [hx]
      simp [DataW.weights, Tryz.underlying29]
    have hb65 : Tryz.prog.bytesOf 65 = 24 := by kernel_rfl
    have hb5 : Tryz.prog.bytesOf 5 = 1 := by kernel_rfl
    rw [hb65] at hwn
    have hC : ∀ r, r < len → C r ≤ reachBytes := by
      intro r hr
      rcases hA : A r with _ | a'
      · rw [(hel r (by omega)).2.2.2.2.2.1 hA]; exact Nat.zero_le _
      · have hz := (hel r (by omega)).2.2.2.1
        have hlc' := (hel r (by omega)).2.1
        refine hw _ ?_
        rw [hx]
        simp only [DataW.weights, Tryz.underlying29, List.mem_cons, List.mem_append]
        right; left
        refine weights_mem_all (d := intRow .u8 (A r) (L r) (Z r)) (List.mem_map.2 ⟨r, List.mem_range.2 hr, rfl⟩) _ ?_
        rw [hA]
        simp [intRow, DataW.weights, Tryz.underlying65, hb5, lits, hz]
        left; omega
    unfold reachBytes at hwn hC
    have hZ : ∀ r, r < len → ((Z r).take (L r)).length = L r := fun r hr => by
      obtain ⟨_, h1, _, h3, _⟩ := hel r (by omega)
      rw [List.length_take, h3]; omega
    refine ⟨some a, cap, (List.range len).map fun r => ⟨(Z r).take (L r), A r, C r⟩, by simp, allW_reads fun _ => ⟨a, rfl, fun j v hj => ?_⟩, fun r hr x hx => ?_, by simp; omega, fun x hx => ?_⟩
    · rw [List.map_map, List.getElem?_map] at hj
      have hjl : j < len := by
        rcases Nat.lt_or_ge j len with h | h
        · exact h
        · rw [List.getElem?_eq_none (by simpa using h)] at hj; cases hj
      rw [List.getElem?_range hjl] at hj
      simp only [Option.map_some, Option.some.injEq, Function.comp, vB] at hj
      rw [← hj, hZ j hjl]
      exact (hel j (by omega)).1
    · obtain ⟨k, hk, rfl⟩ := List.mem_map.1 hx
      have hk := List.mem_range.1 hk
      refine allW_reads (W := W) (fun hne => ?_) r hr
      obtain ⟨_, h1, _, h3, _, h5, h6⟩ := hel k (by omega)
      have hpos : 0 < L k := by
        rw [← hZ k hk]
        exact List.length_pos_iff.2 fun h => hne (by dsimp only; rw [h]; rfl)
      cases hA : A k with
      | none => have := h5 hA; omega
      | some a' =>
        obtain ⟨_, hc⟩ := h6 a' hA
        refine ⟨a', rfl, fun j v hj => ?_⟩
        dsimp only at hj
        rw [List.getElem?_map] at hj
        have hjl : j < L k := by
          rcases Nat.lt_or_ge j (L k) with h | h
          · exact h
          · rw [List.getElem?_eq_none (by rw [hZ k hk]; exact h)] at hj; cases hj
        have h7 := hc j (by omega)
        rw [List.getElem?_take, if_pos hjl, List.getElem?_eq_getElem (by omega)] at hj
        simp only [Option.map_some, Option.some.injEq] at hj
        have h8 : (Z k).getD j 0 = (Z k)[j]'(by omega) := by simp [List.getD, List.getElem?_eq_getElem (show j < (Z k).length by omega)]
        rw [h8] at h7
        rw [h7, ← hj]; rfl
    · obtain ⟨k, hk, rfl⟩ := List.mem_map.1 hx
      have hk := List.mem_range.1 hk
      have := hC k hk
      have h1 := (hel k (by omega)).2.1
      show ((Z k).take (L k)).length ≤ _
      rw [hZ k hk]; omega
theorem one_int {W : World} {sp : Nat → Bool} {hd : Bool} {fuel : Nat} {v : Value} {y : DataW H × List MemPlace} (h : DataW.trod enc Tryz.prog W 0 sp hd fuel 3 [v] = some y) : ∃ n, v = .int .i64 n := by
  obtain ⟨n, e, _, _⟩ := DataW.trod_int Tryz.underlying3 h
  injection e with e _
  exact ⟨n, e⟩
theorem one_bool {W : World} {sp : Nat → Bool} {hd : Bool} {fuel : Nat} {v : Value} {y : DataW H × List MemPlace} (h : DataW.trod enc Tryz.prog W 0 sp hd fuel 4 [v] = some y) : ∃ n, v = .bool n := by
  obtain ⟨n, e, _⟩ := DataW.trod_bool Tryz.underlying4 h
  injection e with e _
  exact ⟨n, e⟩
theorem c3 : Tryz.prog.cellsOf 3 = 1 := by kernel_rfl
theorem c4 : Tryz.prog.cellsOf 4 = 1 := by kernel_rfl
theorem c29 : Tryz.prog.cellsOf 29 = 1 := by kernel_rfl
theorem c31 : Tryz.prog.cellsOf 31 = 6 := by kernel_rfl
set_option maxRecDepth 100000 in
theorem act_value {W : World} {hd : Bool} {fuel : Nat} {cs : List Value} {y : DataW H × List MemPlace} (hl : cs.length = 6) (h : DataW.trod enc Tryz.prog W 0 (fun _ => true) hd fuel 31 cs = some y) (hw : ∀ n ∈ y.1.weights Tryz.prog 31, n ≤ reachBytes) :
    ∃ (e : AV) (lbs : List LB), cs = encA e ∧ LbsOk W e.dA lbs ∧ e.dn = lbs.length := by
  obtain ⟨xs, n, _, hx, _, hlen, hg⟩ := DataW.trod_struct Tryz.underlying31 h
  match cs, hl, xs, hlen, hg, hx with
  | [v0, v1, v2, v3, v4, v5], _, [y0, y1, y2, y3, y4, y5], _, hg, hx =>
    obtain ⟨n0, rfl⟩ := one_int (y := y0) (by simpa [c3] using hg 0 _ rfl)
    obtain ⟨n1, rfl⟩ := one_int (y := y1) (by simpa [c3] using hg 1 _ rfl)
    obtain ⟨n2, rfl⟩ := one_int (y := y2) (by simpa [c3] using hg 2 _ rfl)
    obtain ⟨n3, rfl⟩ := one_int (y := y3) (by simpa [c3] using hg 3 _ rfl)
    obtain ⟨n5, rfl⟩ := one_bool (y := y5) (by simpa [c4] using hg 5 _ rfl)
    obtain ⟨A, c, lbs, hcs, hD⟩ := open_lbs (x := y4) (show DataW.trod enc Tryz.prog W 0 (fun _ => true) hd n 29 [v4] = some y4 by simpa [c29] using hg 4 _ rfl) (fun m hm => hw m (by
      rw [hx]
      simp [DataW.weightsEach, DataW.weights, Tryz.underlying31, hm]))
    injection hcs with hcs _
    subst hcs
    exact ⟨⟨n0, n1, n2, n3, A, lbs.length, c, n5⟩, lbs, rfl, hD, rfl⟩
theorem open_acts {W : World} {hd : Bool} {fuel : Nat} {cs : List Value} {x : DataW H × List MemPlace} (h : DataW.trod enc Tryz.prog W 0 (fun _ => true) hd fuel 22 cs = some x) (hw : ∀ n ∈ x.1.weights Tryz.prog 22, n ≤ reachBytes) :
    ∃ (A : Option Addr) (c : Nat) (acts : List AV), cs = [.slice A acts.length c] ∧ Reads (AllW W) A (acts.flatMap encA) ∧ ∀ e ∈ acts, ∃ lbs, LbsOk W e.dA lbs ∧ e.dn = lbs.length := by
  rcases open_slice Tryz.underlying22 h with ⟨hcs, _⟩ | ⟨a, len, cap, m, n, D, Pl, hcs, _, hlc, hcm, hm, hx, hel⟩
  · exact ⟨none, 0, [], hcs, allW_reads fun h => absurd rfl h, fun _ h => nomatch h⟩
  · have hlm : len ≤ m := by rw [hm]; split <;> omega
    have key : ∀ i : Nat, ∃ e : AV, i < len → (∀ j v, (encA e)[j]? = some v → W.cell? (a.add (i * 6 + j)) = some v) ∧ ∃ lbs, LbsOk W e.dA lbs ∧ e.dn = lbs.length := by
      intro i
      by_cases hi : i < len
      · obtain ⟨cs', hc, ht⟩ := hel i (by omega)
        rw [c31] at hc
        obtain ⟨_, hcl, hat⟩ := World.cells?_some hc
        obtain ⟨e, lbs, rfl, hD, hdn⟩ := act_value hcl ht (fun k hk => hw k (by
          rw [hx]
          simp only [DataW.weights, Tryz.underlying22, List.mem_cons, List.mem_append]
          right; left
          exact weights_mem_all (d := D i) (List.mem_map.2 ⟨i, List.mem_range.2 hi, rfl⟩) _ hk))
        refine ⟨e, fun _ => ⟨fun j v hv => ?_, lbs, hD, hdn⟩⟩
        have hj : j < 6 := (List.getElem?_eq_some_iff.1 hv).1
        have := hat j hj
        rw [hv, Go.Deep.add_add] at this
        exact this
      · exact ⟨⟨0, 0, 0, 0, none, 0, 0, false⟩, fun h => absurd h hi⟩
    let E : Nat → AV := fun i => Classical.choose (key i)
    have hE : ∀ i, i < len → (∀ j v, (encA (E i))[j]? = some v → W.cell? (a.add (i * 6 + j)) = some v) ∧ ∃ lbs, LbsOk W (E i).dA lbs ∧ (E i).dn = lbs.length := fun i => Classical.choose_spec (key i)
    have hxl : ((List.range len).map E).length = len := by simp
    refine ⟨some a, cap, (List.range len).map E, by rw [hxl]; exact hcs, allW_reads fun _ => ⟨a, rfl, fun j v hj => ?_⟩, fun e he => ?_⟩
    · have hfl : (((List.range len).map E).flatMap encA).length = len * 6 := by rw [flat_len (enc := encA) (sz := 6) (fun _ => rfl), hxl]
      have hjl : j < len * 6 := by rw [← hfl]; exact (List.getElem?_eq_some_iff.1 hj).1
      have hdm := Nat.div_add_mod j 6
      have hmod := Nat.mod_lt j (show 0 < 6 by omega)
      have hq : j / 6 < len := by omega
      have h1 := flat_at (enc := encA) (sz := 6) (fun _ => rfl) ((List.range len).map E) (j / 6) (j % 6) (E (j / 6)) (by rw [List.getElem?_map, List.getElem?_range hq]; rfl) hmod
      have h2 := (hE (j / 6) hq).1 (j % 6) v
      rw [show j / 6 * 6 + j % 6 = j by omega] at h1 h2
      rw [h1] at hj
      exact h2 hj
    · obtain ⟨i, hi, rfl⟩ := List.mem_map.1 he
      exact (hE i (List.mem_range.1 hi)).2
end
end Go.SL
namespace Go.SL
open Go.Proofs Go.Proofs.YtocogcgnahbpkaaGreat
open Go.RowKit
open Rs (Nd Gh)
theorem runs_true (n l m b q : Int) (A : Option Addr) (cp : Nat) (acts : List AV) (W : World) (hX : Reads (AllW W) A (acts.flatMap encA)) (hL : ∀ e ∈ acts, ∃ lbs, LbsOk W e.dA lbs ∧ e.dn = lbs.length) :
    Calls Tryz.prog 6 #[.int .i64 n, .int .i64 l, .int .i64 m, .int .i64 b, .int .i64 q, .slice A acts.length cp] W fun e W' => e = .returned (.bool true) ∧ Below W.heap.size W W' := by
  have hc := cfgOK_of n l m b q
  have hR := runs_n (n := n) (l := l) (m := m) (b := b) (q := q) (G := mgOf (cfgOf n l m b q) (nd0 (cfgOf n l m b q)) g00) (Ψ := fun k w => k ≤ 400 ∧ Phi true (cfgOf n l m b q) k w) (X := AllW W) (D := AllW W) (acts := acts) (sA := A) (sc := cp) hX ?_ ?_ ?_ lone_n
  · refine (hR.2 (AllW W) W (allW_sat W 3)).mono ?_
    rintro e w' ⟨v, L, rfl, rfl, hs⟩
    exact ⟨rfl, AllW.below (L := []) (hs.ent (Ent.app (l' := []) .nil (.refl _)))⟩
  · intro w hw hG
    refine ⟨Nat.zero_le _, 0, g00, nd0 (cfgOf n l m b q), Nat.le_refl _, ?_, ?_, hw.S.1, fun k q hq => ?_, ?_, ?_, hw.calm, ?_, fun i => DE.nil, ?_⟩
    · rw [hw.net.1]; exact ok_start hc
    · rw [hG]; exact mg_rfl
    · obtain ⟨bs, p, rfl⟩ := hw.S.2 k q hq
      exact ⟨nd0_seat, rfl, rfl, rfl, rfl, Nat.le_refl _⟩
    · rw [hw.net.1, hw.net.2]; rfl
    · rw [hw.net.1]; exact Nat.zero_le _
    · rw [hw.hi]; exact Nat.zero_le _
    · rw [hw.net.1]; exact .nil
  · intro k w e bw ⟨_, hw⟩ he hk
    obtain ⟨lbs, hb, hdn⟩ := hL e (List.mem_of_getElem? he)
    refine (act_p hc hw hk ⟨lbs, ⟨hb.X, hb.D, hdn, hb.h24, hb.ld⟩⟩).mono ?_
    rintro v L ⟨w', a, b, d⟩
    exact ⟨_, .refl _, w', ⟨hk, a⟩, b, d⟩
  · rintro k w ⟨hk, A, g, nd, hA, h⟩
    exact ⟨h.len, fun i p hp => ⟨(h.seat i p hp).2.1, (h.siz hc (by omega) hp).sn⟩⟩
end Go.SL
namespace Go.Proofs.YtocogcgnahbpkaaGreat
open Go.ChangeShapes Go.WideShapes Go.ChangeAt Go.RowKit Go.Deep Go.Joins
theorem own : ownKnob Tryz.prog.godebug = none := by kernel_rfl
theorem laidOut : laidOutB Tryz.prog = true := by kernel_rfl
section
variable {H : Type} {enc : TypeId × Value → H} {P : Program} {w : World} {base : Nat} {spare : Nat → Bool} {held : Bool}
theorem trodAll_six {t t' t'' t3 t4 t5 : TypeId} {args : Array Value} {ds : List (DataW H)} {ps : List MemPlace} (h : DataW.TrodAll enc P w base spare held [t, t', t'', t3, t4, t5] args.toList ds ps) :
    ∃ v v' v'' v3 v4 v5 d d' d'' d3 d4 d5 p p' p'' p3 p4 p5, args = #[v, v', v'', v3, v4, v5] ∧ ds = [d, d', d'', d3, d4, d5] ∧ ps = p ++ p' ++ p'' ++ p3 ++ p4 ++ p5 ∧ DataW.Trod enc P w base spare held t v d p ∧ DataW.Trod enc P w base spare held t' v' d' p' ∧ DataW.Trod enc P w base spare held t'' v'' d'' p'' ∧ DataW.Trod enc P w base spare held t3 v3 d3 p3 ∧ DataW.Trod enc P w base spare held t4 v4 d4 p4 ∧ DataW.Trod enc P w base spare held t5 v5 d5 p5 := by
  obtain ⟨v, vs, d, ds1, p, q, hargs, rfl, rfl, hd, hrest⟩ := trodAll_cons h
  obtain ⟨v', vs1, d', ds2, p', q1, rfl, rfl, rfl, hd', hrest1⟩ := trodAll_cons hrest
  obtain ⟨v'', vs2, d'', ds3, p'', q2, rfl, rfl, rfl, hd'', hrest2⟩ := trodAll_cons hrest1
  obtain ⟨v3, vs3, d3, ds4, p3, q3, rfl, rfl, rfl, hd3, hrest3⟩ := trodAll_cons hrest2
  obtain ⟨v4, vs4, d4, ds5, p4, q4, rfl, rfl, rfl, hd4, hrest4⟩ := trodAll_cons hrest3
  obtain ⟨v5, vs5, d5, ds6, p5, q5, rfl, rfl, rfl, hd5, hrest5⟩ := trodAll_cons hrest4
  obtain ⟨rfl, rfl, rfl⟩ := trodAll_nil hrest5
  exact ⟨v, v', v'', v3, v4, v5, d, d', d'', d3, d4, d5, p, p', p'', p3, p4, p5, by cases args; simp_all, rfl, by simp, hd, hd', hd'', hd3, hd4, hd5⟩
theorem trodAll_mk6 {t t' t'' t3 t4 t5 : TypeId} {v v' v'' v3 v4 v5 : Value} {d d' d'' d3 d4 d5 : DataW H} {p p' p'' p3 p4 p5 : List MemPlace} (h : DataW.Trod enc P w base spare held t v d p) (h' : DataW.Trod enc P w base spare held t' v' d' p')
    (h'' : DataW.Trod enc P w base spare held t'' v'' d'' p'') (h3 : DataW.Trod enc P w base spare held t3 v3 d3 p3) (h4 : DataW.Trod enc P w base spare held t4 v4 d4 p4) (h5 : DataW.Trod enc P w base spare held t5 v5 d5 p5) : DataW.TrodAll enc P w base spare held [t, t', t'', t3, t4, t5] [v, v', v'', v3, v4, v5] [d, d', d'', d3, d4, d5] (p ++ p' ++ p'' ++ p3 ++ p4 ++ p5) :=
  ⟨p, _, h, ⟨p', _, h', ⟨p'', _, h'', trodAll_mk3 h3 h4 h5, rfl⟩, rfl⟩, by simp⟩
end
section
variable {H : Type} {enc : TypeId × Value → H}
set_option maxRecDepth 100000 in
theorem int_arg {W : World} {base : Nat} {sp : Nat → Bool} {hd : Bool} {v : Value} {d : DataW H} {p : List MemPlace} (hv : Value.okWide Tryz.prog W .any base 3 v) (h : DataW.Trod enc Tryz.prog W 0 sp hd 3 v d p) : ∃ n, v = .int .i64 n := by
  exact okWide_int Tryz.underlying3 hv
end
set_option maxRecDepth 100000 in
theorem runs_lifted (os : Os) (started : os.Started) (H : Type) (enc : TypeId × Value → H) :
    ReturnsInHanded {} Tryz.checked os 6 .any (Rows.raftRunsSpec.pre6 enc Tryz.prog Tryz.f6 Rows.raftRunsRow.domain false) (Rows.raftRunsSpec.post enc Tryz.prog Tryz.f6 false true false false) := by
  refine returnsInHanded_of_change_sized (C := Tryz.checked) own started (by kernel_rfl) Tryz.func6
    (ChangeSpec.witness6 (enc := enc) (C := Tryz.checked) false ⟨#[], #[.int .i64 0, .int .i64 0, .int .i64 0, .int .i64 0, .int .i64 0, .slice none 0 0], []⟩ 8 (by kernel_rfl) (by kernel_rfl) (by kernel_rfl) (by kernel_rfl)) ?_
  intro W base args ds gs before hval0 hW _ hsz0 _
  have hsz : (DataW.weightsEach Tryz.prog (Tryz.f6.params.toList ++ Rows.raftRunsSpec.plain.varTypes Tryz.prog) (ds ++ gs)).all (· ≤ reachBytes) = true := hsz0
  clear hsz0
  have hval : ∀ (j : Nat) t v, Tryz.f6.params[j]? = some t → args[j]? = some v → Value.okWide Tryz.prog W .any base t v := hval0
  have hW' := hW
  obtain ⟨p, q, hA0, hV, rfl, _, _⟩ := hW
  have hA : DataW.TrodAll enc Tryz.prog W 0 (fun _ => true) true Tryz.f6.params.toList args.toList ds p := hA0
  rw [Tryz.params6] at hA hval hsz
  obtain ⟨v0, v1, v2, v3, v4, v5, d0, d1, d2, d3, d4, d5, p0, p1, p2, p3, p4, p5, rfl, rfl, rfl, h0, h1, h2, h3, h4, h5⟩ := trodAll_six hA
  obtain ⟨rfl, rfl⟩ := trodVars_none hV
  have h0k := h0
  have h1k := h1
  have h2k := h2
  have h3k := h3
  have h4k := h4
  have h5k := h5
  clear hA0 hval0
  simp only [List.append_nil] at hW'
  have hlt : ∀ x ∈ p0 ++ p1 ++ p2 ++ p3 ++ p4 ++ p5, x.block < W.heap.size := fun x hx => by simpa using hW'.lt x hx
  obtain ⟨n, rfl⟩ := int_arg (hval 0 3 v0 rfl rfl) h0
  obtain ⟨a, rfl⟩ := int_arg (hval 1 3 v1 rfl rfl) h1
  obtain ⟨b, rfl⟩ := int_arg (hval 2 3 v2 rfl rfl) h2
  obtain ⟨c, rfl⟩ := int_arg (hval 3 3 v3 rfl rfl) h3
  obtain ⟨d, rfl⟩ := int_arg (hval 4 3 v4 rfl rfl) h4
  obtain ⟨fuel, hf⟩ := h5
  obtain ⟨a0, len0, cap0, rfl⟩ := okWide_slice Tryz.underlying22 (hval 5 22 v5 rfl rfl)
  obtain ⟨A, cp, xs, hcs, hX, hD⟩ := Go.SL.open_acts hf (fun n hn => by
    have := List.all_eq_true.1 hsz n (DataW.weights_mem_each (j := 5) (t := 22) (d := d5) rfl rfl n hn)
    simpa using this)
  simp only [Value.cells] at hcs
  have hcs' : Value.slice a0 len0 cap0 = .slice A xs.length cp := by simpa using hcs
  rw [hcs'] at h5k hW' ⊢
  refine (Go.SL.runs_true n a b c d A cp xs W hX hD).mono fun e W' ⟨he, hb⟩ => ?_
  subst he
  exact ⟨_, rfl, _, _, _, [], p0 ++ p1 ++ p2 ++ p3 ++ p4 ++ p5, [], hW', trodAll_mk1 (shut_bool Tryz.underlying4 _),
    trodAll_mk6 (Below.trod laidOut (by kernel_rfl) (of_decide_eq_true (by kernel_rfl)) h0k hb (fun x hx => hlt x (by simp [hx]))) (Below.trod laidOut (by kernel_rfl) (of_decide_eq_true (by kernel_rfl)) h1k hb (fun x hx => hlt x (by simp [hx])))
      (Below.trod laidOut (by kernel_rfl) (of_decide_eq_true (by kernel_rfl)) h2k hb (fun x hx => hlt x (by simp [hx]))) (Below.trod laidOut (by kernel_rfl) (of_decide_eq_true (by kernel_rfl)) h3k hb (fun x hx => hlt x (by simp [hx])))
      (Below.trod laidOut (by kernel_rfl) (of_decide_eq_true (by kernel_rfl)) h4k hb (fun x hx => hlt x (by simp [hx]))) (Below.trod laidOut (by kernel_rfl) (of_decide_eq_true (by kernel_rfl)) h5k hb (fun x hx => hlt x (by simp [hx]))),
    rfl, hb.frame _, fun h => by cases h⟩
theorem raftRuns_holds : Rows.RaftRunsSaid :=
  OpenClaim.holds_of_wide 6 Tryz.f6 rfl rfl rfl rfl rfl rfl rfl ⟨rfl, rfl, rfl, rfl, rfl⟩ rfl rfl rfl rfl rfl (by kernel_rfl) Tryz.func6 (by kernel_rfl)
    (of_decide_eq_true (by kernel_rfl)) (by unfold Func.isWrapper; first | (rw [if_pos (by decide +kernel)]; kernel_rfl) | (rw [if_neg (by decide +kernel)]; exact ⟨rfl, rfl⟩))
    (fun os started H enc _ => runs_lifted os started H enc)
#print axioms raftRuns_holds
end Go.Proofs.YtocogcgnahbpkaaGreat
