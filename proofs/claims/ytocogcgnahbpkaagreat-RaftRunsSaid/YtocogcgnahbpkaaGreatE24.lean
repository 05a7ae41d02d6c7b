/-
  A part of the proof of what E53 says at its head.
-/
import Derived.Test.YtocogcgnahbpkaaGreatE16
import Derived.Test.YtocogcgnahbpkaaGreatE23
namespace Go.SL
open Go.Proofs Go.Proofs.YtocogcgnahbpkaaGreat
open Rs (Nd)
set_option maxRecDepth 10000
section
variable {P : Program} {n : Nat} {e : Env} {L L' S : List HP} {o : Oper} {x y : Operand} [Tab P] {sz E m c : Nat} {A : Option Addr} {cs : List Value}
theorem O.storeRowE {t j : Nat} {r : Row} {vs cs' : List Value} (ho : o.op = .store t x y) (ht : ty P t = some r) (hx : ev e x = some (.pointer (adr A (j * r.size)))) (hy : ev e y = some (.agg vs.toArray)) (hl : vs.length = r.size) (hv : vs.all isOne = true) (h0 : 0 < vs.length)
    (hp : Pick (Gr sz E A m c cs) L L') (hk : j * r.size + vs.length ≤ cs.length) (hc : cs' = cs.take (j * r.size) ++ vs ++ cs.drop (j * r.size + vs.length)) : OpS P n e L o (Det undef (Gr sz E A m c cs' :: L')) := .run0 fun F w a h1 h2 => by
  obtain ⟨T⟩ := ty_is ht
  obtain ⟨g, pre, junk, rfl, g1, g2, g3, g4, hs⟩ := Gr.own (h2.ent hp.entF) (by omega)
  obtain ⟨w', cs2, h3, h4, h5, h6⟩ := run_storeCells (P := P) (off := pre.length + j * r.size) (vs := vs) 0 hs (by simpa using hv) (by simp only [List.length_append]; omega)
  have e2 : cs2 = pre ++ cs' ++ junk := by
    rw [ext_cells (off := pre.length + j * r.size) (vs := vs) h5 (fun i => by rw [h6 i, Nat.add_zero]) (by simp only [List.length_append]; omega), List.append_assoc pre cs junk, List.take_length_add_append, show pre.length + j * r.size + vs.length = pre.length + (j * r.size + vs.length) by omega, List.drop_length_add_append, List.take_append_of_le_length (by omega), List.drop_append_of_le_length (by omega), hc]
    simp only [List.append_assoc]
  subst e2
  refine ⟨w', ?_, ?_⟩
  · unfold execOp; rw [ho]
    have e3 : (Option.map (fun x : Addr => x.add (j * r.size)) (some ⟨g, pre.length, none⟩)) = some ⟨g, pre.length + j * r.size, none⟩ := by simp [addr_add]
    simp [h1.eval hx, h1.eval hy, Instr.storeAt, Instr.sureAddr, storeVar, T.run_size, Value.cells, hl, adr, addr_add, h3]
  · refine Gr.back h4 ?_ g2 g3 g4
    rw [hc, List.length_append, List.length_append, List.length_take, List.length_drop]; omega
end
section
variable {α : Type} {enc : α → List Value} {sz : Nat}
theorem flat_take (hs : ∀ x, (enc x).length = sz) : ∀ (xs : List α) (k : Nat), (xs.flatMap enc).take (k * sz) = (xs.take k).flatMap enc
  | [], k => by simp
  | x :: r, 0 => by simp
  | x :: r, k + 1 => by rw [List.flatMap_cons, List.take_succ_cons, List.flatMap_cons, Nat.add_mul, Nat.one_mul, Nat.add_comm, ← hs x, List.take_length_add_append, hs x, flat_take hs r k]
theorem flat_drop (hs : ∀ x, (enc x).length = sz) : ∀ (xs : List α) (k : Nat), (xs.flatMap enc).drop (k * sz) = (xs.drop k).flatMap enc
  | [], k => by simp
  | x :: r, 0 => by simp
  | x :: r, k + 1 => by rw [List.flatMap_cons, List.drop_succ_cons, Nat.add_mul, Nat.one_mul, Nat.add_comm, ← hs x, List.drop_length_add_append, hs x, flat_drop hs r k]
theorem flat_set (hs : ∀ x, (enc x).length = sz) {xs : List α} {k j : Nat} {x : α} {v : Value} (hx : xs[k]? = some x) (hj : j < sz) :
    (xs.flatMap enc).set (k * sz + j) v = (xs.take k).flatMap enc ++ (enc x).set j v ++ (xs.drop (k + 1)).flatMap enc := by
  have hk := (List.getElem?_eq_some_iff.1 hx)
  obtain ⟨h1, h2⟩ := hk
  have e : xs = xs.take k ++ x :: xs.drop (k + 1) := by rw [← h2, ← List.drop_eq_getElem_cons h1, List.take_append_drop]
  have hl : ((xs.take k).flatMap enc).length = k * sz := by rw [flat_len hs, List.length_take, Nat.min_eq_left (by omega)]
  conv => lhs; rw [e]
  rw [List.flatMap_append, List.flatMap_cons, List.set_append_right _ _ (by omega), hl, Nat.add_sub_cancel_left, List.set_append_left _ _ (by rw [hs]; exact hj), List.append_assoc]
end
theorem oth_flat {c : Cfg} {s s' : Nd} {k y : Nat} {vs : List Value} (hy : (oth c s)[k]? = some y) (h1 : peerE s' y = vs) (h2 : ∀ z ∈ oth c s, z ≠ y → peerE s' z = peerE s z) (h3 : oth c s' = oth c s) :
    ((oth c s).take k).flatMap (peerE s) ++ vs ++ ((oth c s).drop (k + 1)).flatMap (peerE s) = (oth c s').flatMap (peerE s') := by
  rw [h3]
  obtain ⟨g1, g2⟩ := List.getElem?_eq_some_iff.1 hy
  have nd := oth_nodup (c := c) (s := s)
  have hne : ∀ j z, (oth c s)[j]? = some z → j ≠ k → z ≠ y := fun j z hz hjk hc => hjk (by
    subst hc; exact (List.getElem?_inj (List.getElem?_eq_some_iff.1 hz).1 nd).1 (hz.trans hy.symm))
  have e : oth c s = (oth c s).take k ++ y :: (oth c s).drop (k + 1) := by rw [← g2, ← List.drop_eq_getElem_cons g1, List.take_append_drop]
  have e1 : ((oth c s).take k).flatMap (peerE s') = ((oth c s).take k).flatMap (peerE s) := by
    rw [List.flatMap_def, List.flatMap_def]
    congr 1
    refine List.map_congr_left fun z hz => ?_
    obtain ⟨j, hj⟩ := List.mem_iff_getElem?.1 hz
    have hjk : j < k := by have := (List.getElem?_eq_some_iff.1 hj).1; rw [List.length_take] at this; omega
    rw [List.getElem?_take_of_lt hjk] at hj
    exact h2 z (List.mem_of_getElem? hj) (hne j z hj (by omega))
  have e2 : ((oth c s).drop (k + 1)).flatMap (peerE s') = ((oth c s).drop (k + 1)).flatMap (peerE s) := by
    rw [List.flatMap_def, List.flatMap_def]
    congr 1
    refine List.map_congr_left fun z hz => ?_
    obtain ⟨j, hj⟩ := List.mem_iff_getElem?.1 hz
    rw [List.getElem?_drop] at hj
    exact h2 z (List.mem_of_getElem? hj) (hne _ z hj (by omega))
  conv => rhs; rw [e]
  rw [List.flatMap_append, List.flatMap_cons, e1, e2, h1, List.append_assoc]
attribute [local irreducible] W RS RG RD Fn FnQ OpS QOp Own Sat Rd Gr Mp Rg Lg Ms Es Nod Rp NodI RLg RMs REs RN
section
variable {c : Cfg} {h : RW} {s : Nd} {x : RX} {p : Nat} {q : Bool} {d : Int} {ms : List Rf.Msg} {m : Rf.Msg} {A : Option Addr} {cp : Nat} {l0 : List Rf.Ent} {fl : Nat × Nat}
theorem othR : Reads (OthG c h s) h.oA ((oth c s).flatMap (peerE s)) := .gr
theorem rcount_n (hs : Sn c s) : Fn Tryz.prog 132 [pt p].toArray [RN p c s x ms] (Det (.bool (decide (s.commit < (Rs.count c s).commit))) [RN p c (Rs.count c s) x ms]) := by
  have hf := hs.fin
  have hn := hs.n
  have hol := oth_len (c := c) (s := s) hn.2
  refine Fn.enter Tryz.func132 rfl (by kernel_rfl) rfl ?_
  refine .rn fun h hh => ?_
  have hE : FnQ Tryz.prog 70 [pt p].toArray [Rb true p c h s x] (nv s.log.length) := rend_q (hh.rm hs)
  have hRO := othR (c := c) (h := h) (s := s)
  refine run ?_
  refine .callQ hE ?_
  refine run ?_
  refine W.loopH (ι := Nat) (fun i => i ≤ s.log.length ∧ Rs.countFrom c s s.log.length = Rs.countFrom c s i) (fun i => [(0, pt p), (3, nv i)])
    (fun i => [Rb true p c h s x, RLgN h s, OthG c h s, GraG h s, RefG h s, RMs h.mA x.mn h.mc ms, SnpG h x ms]) (fun i => i) s.log.length ⟨Nat.le_refl _, rfl⟩ subs (.refl _) ?_
  rintro i ⟨hi, hc⟩ ih
  have stop : Rs.countFrom c s s.log.length = s.commit → Rs.count c s = s := fun e => by unfold Rs.count Rs.Nd.fin; rw [e]
  have endF : Rs.count c s = s → decide (s.commit < (Rs.count c s).commit) = false := fun e => by rw [e]; simp
  by_cases h0 : s.commit < i
  · obtain ⟨j, rfl⟩ : ∃ j, i = j + 1 := ⟨i - 1, by omega⟩
    rw [Rs.countFrom, if_neg (by omega)] at hc
    have hT := rterm_q (x := x) (p := p) (q := true) (hh.rm hs) (i := j + 1) (by omega)
    by_cases h1 : s.tm (j + 1) = s.term
    · rw [if_pos h1] at hc
      refine run ?_
      refine W.plan [9] mixed (by rfl) (by kernel_rfl) ?_
      refine run ?_
      refine .callQ hT ?_
      refine run ?_
      refine W.loopH (ι := Nat) (fun k => k ≤ (oth c s).length) (fun k => [(0, pt p), (3, nv (j + 1)), (4, nv (1 + (((oth c s).take k).filter fun q => j + 1 ≤ s.mt q).length)), (5, nv k)])
        (fun k => [Rb true p c h s x, RLgN h s, OthG c h s, GraG h s, RefG h s, RMs h.mA x.mn h.mc ms, SnpG h x ms]) (fun k => (oth c s).length - k) 0 (Nat.zero_le _) subs (.refl _) ?_
      intro k hk ih2
      have hfl := List.length_filter_le (fun q => decide (j + 1 ≤ s.mt q)) ((oth c s).take k)
      rw [List.length_take] at hfl
      by_cases hlt : k < (oth c s).length
      · obtain ⟨y, hy⟩ : ∃ y, (oth c s)[k]? = some y := ⟨_, List.getElem?_eq_getElem hlt⟩
        have htk : (oth c s).take (k + 1) = (oth c s).take k ++ [y] := by rw [List.take_add_one, hy]; rfl
        refine W.fact (fun w h' => IsA.of (k := k * 4) (Reads.gr (sz := 4) (E := 136) (A := h.oA) (cs := (oth c s).flatMap (peerE s))) (by exact pick) (by rw [flat_len peerE_len]; omega) h') fun hA => ?_
        by_cases h2 : j + 1 ≤ s.mt y
        · refine run ?_
          have h3 := ih2 (k + 1) hlt (by omega)
          rw [htk, List.filter_append, List.filter_cons_of_pos (by simpa using h2), List.filter_nil, List.length_append] at h3
          exact .back h3
        · refine run ?_
          have h3 := ih2 (k + 1) hlt (by omega)
          rw [htk, List.filter_append, List.filter_cons_of_neg (by simpa using h2), List.filter_nil, List.append_nil] at h3
          exact .back h3
      · have hk : k = (oth c s).length := by omega
        subst hk
        rw [List.take_length] at hfl ⊢
        refine run ?_
        refine .callQ (v := .bool (Rs.maj c (Rs.have_ c s (j + 1)))) (many_q (c := c) (h := h) (s := s) (x := x) (p := p) (q := true) (Rs.have_ c s (j + 1)) (by have := Rs.have_le (c := c) (s := s) hn.2 (j + 1); omega)) ?_
        cases hm : Rs.maj c (Rs.have_ c s (j + 1)) with
        | true =>
          rw [hm, if_pos rfl] at hc
          have e : Rs.count c s = { s with commit := j + 1 } := by unfold Rs.count Rs.Nd.fin; rw [hc]
          rw [e, decide_eq_true (by exact h0)]
          refine run ?_
          refine .rshut h { s with commit := j + 1 } x hh ?_
          exact .retD Tryz.func132
        | false =>
          rw [hm, if_neg (by simp)] at hc
          refine run ?_
          refine W.hit 3 rfl (by congr 1; omega : _ = nv j) ?_
          exact .back (ih j ⟨by omega, hc⟩ (by omega))
    · rw [if_neg h1] at hc
      rw [endF (stop hc)]
      refine run ?_
      refine W.plan [9] mixed (by rfl) (by kernel_rfl) ?_
      refine run ?_
      refine .callQ hT ?_
      refine run ?_
      rw [stop hc]
      refine .rshut h s x hh ?_
      exact .retD Tryz.func132
  · have hc : Rs.countFrom c s s.log.length = s.commit := by
      rw [hc]
      cases i with
      | zero => rfl
      | succ j => rw [Rs.countFrom, if_pos (by omega)]
    rw [endF (stop hc)]
    refine run ?_
    refine W.plan [9] mixed (by rfl) (by kernel_rfl) ?_
    refine run ?_
    rw [stop hc]
    refine .rshut h s x hh ?_
    exact .retD Tryz.func132
end
end Go.SL
namespace Go.SL
open Go.Proofs Go.Proofs.YtocogcgnahbpkaaGreat
open Rs (Nd)
set_option maxRecDepth 10000
theorem Gr.of_blk {sz E n z : Nat} {vs : List Value} {r : Res} (h : Blk true z vs E r) (hl : vs.length = n * sz) (hn : n ≤ maxLen) : Gr sz E (some ⟨z, 0, none⟩) n n vs r :=
  ⟨hl, .inr ⟨z, [], [], rfl, Nat.le_refl _, hn, by simp, by simpa using h⟩⟩
def rowK (c : Cfg) (s s' : Nd) (k : Nat) : List Value := ((oth c s).take k).flatMap (peerE s') ++ ((oth c s).drop k).flatMap (peerE s)
theorem rowK_0 {c : Cfg} {s s' : Nd} : rowK c s s' 0 = (oth c s).flatMap (peerE s) := rfl
theorem rowK_all {c : Cfg} {s s' : Nd} : rowK c s s' (oth c s).length = (oth c s).flatMap (peerE s') := by unfold rowK; rw [List.take_length, List.drop_length]; simp
theorem rowK_len {c : Cfg} {s s' : Nd} {k : Nat} (hk : k ≤ (oth c s).length) : (rowK c s s' k).length = (oth c s).length * 4 := by
  unfold rowK; rw [List.length_append, flat_len peerE_len, flat_len peerE_len, List.length_take, List.length_drop]; omega
theorem rowK_at {c : Cfg} {s s' : Nd} {k y j : Nat} (hy : (oth c s)[k]? = some y) (hj : j < 4) : (rowK c s s' k)[k * 4 + j]? = (peerE s y)[j]? := by
  have hk := (List.getElem?_eq_some_iff.1 hy).1
  have hl : (((oth c s).take k).flatMap (peerE s')).length = k * 4 := by rw [flat_len peerE_len, List.length_take]; omega
  unfold rowK
  rw [List.getElem?_append_right (by omega), hl, Nat.add_sub_cancel_left]
  have := flat_at (enc := peerE s) peerE_len ((oth c s).drop k) 0 j y (by rw [List.getElem?_drop]; exact hy) hj
  rw [Nat.zero_mul, Nat.zero_add] at this
  exact this
theorem rowK_put {c : Cfg} {s s' : Nd} {k y : Nat} (hy : (oth c s)[k]? = some y) : rowK c s s' (k + 1) = (rowK c s s' k).take (k * 4) ++ peerE s' y ++ (rowK c s s' k).drop (k * 4 + 4) := by
  have hk := (List.getElem?_eq_some_iff.1 hy)
  obtain ⟨h1, h2⟩ := hk
  have hl : (((oth c s).take k).flatMap (peerE s')).length = k * 4 := by rw [flat_len peerE_len, List.length_take]; omega
  have hd : (oth c s).drop k = y :: (oth c s).drop (k + 1) := by rw [← h2, ← List.drop_eq_getElem_cons h1]
  unfold rowK
  rw [List.take_append_of_le_length (l₁ := ((oth c s).take k).flatMap (peerE s')) (by omega), List.take_of_length_le (l := ((oth c s).take k).flatMap (peerE s')) (by omega), List.take_add_one, hy, hd, List.flatMap_append, List.flatMap_cons]
  rw [show k * 4 + 4 = (((oth c s).take k).flatMap (peerE s')).length + (peerE s y).length by rw [hl]; rfl, List.drop_length_add_append, List.drop_left]
  simp
theorem rowK_set {c : Cfg} {s s' : Nd} {k y j : Nat} {v : Value} (hy : (oth c s)[k]? = some y) (hj : j < 4) (he : peerE s' y = (peerE s y).set j v) : rowK c s s' (k + 1) = (rowK c s s' k).set (k * 4 + j) v := by
  obtain ⟨h1, h2⟩ := List.getElem?_eq_some_iff.1 hy
  have hl : (((oth c s).take k).flatMap (peerE s')).length = k * 4 := by rw [flat_len peerE_len, List.length_take]; omega
  have hd : (oth c s).drop k = y :: (oth c s).drop (k + 1) := by rw [← h2, ← List.drop_eq_getElem_cons h1]
  unfold rowK
  rw [List.take_add_one, hy, hd, List.flatMap_append, List.flatMap_cons, List.set_append_right _ _ (by omega), hl, Nat.add_sub_cancel_left, List.set_append_left _ _ (by rw [peerE_len]; exact hj), ← he]
  simp
attribute [local irreducible] W RS RG RD Fn FnQ OpS QOp Own Sat Rd Gr Mp Rg Lg Ms Es Nod Rp NodI RLg RMs REs RN
section
variable {c : Cfg} {h : RW} {s : Nd} {x : RX} {p : Nat} {q : Bool} {d : Int} {ms : List Rf.Msg} {m : Rf.Msg} {A : Option Addr} {cp : Nat} {l0 : List Rf.Ent} {fl : Nat × Nat}
theorem rlead_n (hs : Sn c s) (hm : ms.length ≤ 300) (hr : s.log.length < 65536) : Fn Tryz.prog 152 [pt p].toArray [RNS p c s.log fl s ms] (Det (.tuple #[]) [RNS p c s.log fl (Rs.lead c s).1 (ms ++ (Rs.lead c s).2)]) := by
  rw [lead_eq]
  have hf := hs.fin
  have hn := hs.n
  have hol := oth_len (c := c) (s := s) hn.2
  have hs1 := Sn.lead1 hs
  have hoe : (oth c (lead1 s)).length = (oth c s).length := rfl
  refine Fn.enter Tryz.func152 rfl (by kernel_rfl) rfl ?_
  refine .rn fun h hh => ?_
  have hE : ∀ x, FnQ Tryz.prog 70 [pt p].toArray [Rb true p c h (lead1 s) x] (nv s.log.length) := fun x => rend_q (s := lead1 s) (RwOk.rm hh hs1)
  refine run ?_
  refine W.loopH (ι := Nat) (fun k => k ≤ (oth c s).length) (fun k => [(0, pt p), (2, nv k)])
    (fun k => [Gr 4 136 h.oA (oth c s).length h.oc (rowK c s (lead1 s) k), Rb true p c h (lead1 s) (rxS ms.length (snL ms).length (fr s.log s.log) fl), RLgN h s, GraG h s, RefG h s, RMs h.mA ms.length h.mc ms, SnpG h (rxS ms.length (snL ms).length (fr s.log s.log) fl) ms]) (fun k => (oth c s).length - k) 0 (Nat.zero_le _) subs (Picks.sub picks) ?_
  intro k hk ih
  by_cases hlt : k < (oth c s).length
  · obtain ⟨y, hy⟩ : ∃ y, (oth c s)[k]? = some y := ⟨_, List.getElem?_eq_getElem hlt⟩
    have hRK : Reads (Gr 4 136 h.oA (oth c s).length h.oc (rowK c s (lead1 s) k)) h.oA (rowK c s (lead1 s) k) := .gr
    have hrl := rowK_len (c := c) (s := s) (s' := lead1 s) hk
    refine W.fact (fun w h' => IsA.of (k := k * 4) hRK (by exact pick) (by rw [hrl]; omega) h') fun hA => ?_
    refine run ?_
    refine W.plan [14] mixed (by rfl) (by kernel_rfl) ?_
    refine run ?_
    refine RG.take rfl rfl rfl rfl (R.load (v := nv y) rfl rfl rfl rfl hRK pick (by rw [rowK_at hy (by omega)]; rfl)) ?_ rfl
    refine run ?_
    refine .callQ (hE _) ?_
    refine run ?_
    refine .det0 rfl rfl rfl (O.storeRowE (j := k) (vs := peerE (lead1 s) y) (cs' := rowK c s (lead1 s) (k + 1)) rfl rfl rfl rfl rfl rfl (by show 0 < 4; omega) pick (by rw [hrl]; show k * 4 + 4 ≤ _; omega) (rowK_put hy)) ?_
    refine run ?_
    exact .back (ih (k + 1) hlt (by omega))
  · have hk : k = (oth c s).length := by omega
    subst hk
    rw [rowK_all]
    have e2 : lead2 s = upN (lead1 s) [⟨s.term, []⟩] := by unfold lead2; rw [if_pos (by omega)]
    rw [e2]
    have hs2 : Sn c (upN (lead1 s) [⟨s.term, []⟩]) := hs1.up (by show s.log.length + 1 ≤ _; omega) (by show s.log.length + 1 ≤ s.snap + _; omega) (by simp)
    refine run ?_
    refine .callQ (hE _) ?_
    refine run ?_
    refine .rshut h (lead1 s) (rxS ms.length (snL ms).length (fr s.log s.log) fl) hh ?_
    refine .ent (Ent.mk (X := Gs []) fun _ => trivial) ?_
    refine .callD (rjoin_n (d := []) (dA := none) (dc := 0) (D := Gs []) (s := lead1 s) (p := p) (c := c) (l0 := s.log) (fl := fl) (ms := ms) hs1 (fun _ _ => Rd.nil) (by show s.log.length - s.snap + 1 ≤ _; omega) (by show s.log.length + 1 ≤ _; omega) (by
      show fj (fr s.log s.log) s.log.length _ = fr s.log (s.log ++ _)
      rw [fr_self, fr_app (by simp)]; rfl)) ?_
    refine run ?_
    refine .callD (rcount_n (s := upN (lead1 s) [⟨s.term, []⟩]) (p := p) (c := c) (ms := ms) (x := ⟨ms.length, (snL ms).length, fr s.log (upN (lead1 s) [⟨s.term, []⟩]).log, fl.1, fl.2⟩) hs2) ?_
    refine run ?_
    refine .callD (rsendAll_n (s := Rs.count c (upN (lead1 s) [⟨s.term, []⟩])) (p := p) (c := c) (ms := ms) (l0 := s.log) (fl := fl) hs2.count (by omega) (fun y _ => ⟨by show 1 ≤ s.log.length + 1; omega, by show s.log.length + 1 ≤ (s.log ++ [_]).length + 1; rw [List.length_append]; simp⟩)) ?_
    refine run ?_
    exact .doneD Tryz.func152
theorem rstand_n {hint : Nat} (hs : Sn c s) (hm : ms.length ≤ 300) (hr : s.log.length < 65536) (ht : s.term < 1099511627776) (hh0 : s.heir = 0) : Fn Tryz.prog 130 [pt p, nv hint, iv d].toArray [RNS p c s.log fl s ms]
    (Det (.tuple #[]) [RNS p c s.log fl (Rs.stand c d hint s).1 (ms ++ (Rs.stand c d hint s).2)]) := by
  rw [stand_eq]
  have hf := hs.fin
  have hn := hs.n
  have hol := oth_len (c := c) (s := s) hn.2
  have hs1 : Sn c (stand1 c d s) := hs.stand1 ht
  have hoe : (oth c (stand1 c d s)).length = (oth c s).length := rfl
  have he1 : stand1 c d s = { Rs.rest c d { s with term := s.term + 1, role := 3, vote := s.id, leader := 0 } with gr := [s.id], rf := [] } := by
    cases s; simp only at hh0; subst hh0; rfl
  refine Fn.enter Tryz.func130 rfl (by kernel_rfl) rfl ?_
  refine .rn fun h hh => ?_
  refine run ?_
  refine .callD (rrest_ok (c := c) (h := h) (x := rxS ms.length (snL ms).length (fr s.log s.log) fl) (s := { s with term := s.term + 1, role := 3, vote := s.id, leader := 0 }) hs.cf) ?_
  refine run ?_
  refine .lit fun z => ?_
  refine run ?_
  refine .ent ((Picks.ent (a := [Blk true z [nv s.id] 3]) picks).trans (Ent.of (Y := Gr 1 3 (some ⟨z, 0, none⟩) 1 1 [nv s.id]) fun r hr => Gr.of_blk hr rfl (by decide))) ?_
  refine .ent (Ent.mk (X := Gr 1 3 none 0 0 []) fun r => .nil) ?_
  refine .rshut (ms := ms) (c := c) (p := p) { h with gA := some ⟨z, 0, none⟩, gc := 1, rA := none, rc := 0 } { Rs.rest c d { s with term := s.term + 1, role := 3, vote := s.id, leader := 0 } with gr := [s.id], rf := [] } (rxS ms.length (snL ms).length (fr s.log s.log) fl) hh ?_
  rw [← he1]
  clear he1 hh
  refine .first (RNS p c s.log fl (stand1 c d s) ms) ?_
  refine .rn fun h hh => ?_
  refine .callQ (v := .bool (Rs.maj c 1)) (many_q (p := p) (c := c) (h := h) (s := stand1 c d s) (x := rxS ms.length (snL ms).length (fr s.log s.log) fl) (q := true) 1 (by omega)) ?_
  refine .rshut h (stand1 c d s) (rxS ms.length (snL ms).length (fr s.log s.log) fl) hh ?_
  cases hj : Rs.maj c 1 with
  | true =>
    rw [if_pos rfl]
    refine run ?_
    refine .callD (rlead_n (s := stand1 c d s) (c := c) (p := p) (fl := fl) (ms := ms) hs1 hm hr) ?_
    refine run ?_
    exact .retD Tryz.func130
  | false =>
    rw [if_neg (by simp)]
    refine run ?_
    refine W.loopH (ι := Nat) (fun k => k ≤ (oth c s).length) (fun k => [(0, pt p), (1, nv hint), (6, nv k)])
      (fun k => [RNS p c s.log fl (stand1 c d s) (ms ++ ((oth c s).take k).map (voteM hint (stand1 c d s)))]) (fun k => (oth c s).length - k) 0 (Nat.zero_le _) subs (by rw [List.take_zero, List.map_nil, List.append_nil]; exact Picks.sub picks) ?_
    intro k hk ih
    refine .rn fun h hh => ?_
    have hRO := othR (c := c) (h := h) (s := stand1 c d s)
    by_cases hlt : k < (oth c s).length
    · obtain ⟨y, hy⟩ : ∃ y, (oth c (stand1 c d s))[k]? = some y := ⟨_, List.getElem?_eq_getElem hlt⟩
      have hE : ∀ x, FnQ Tryz.prog 70 [pt p].toArray [Rb true p c h (stand1 c d s) x] (nv s.log.length) := fun x => rend_q (s := stand1 c d s) (RwOk.rm hh hs1)
      have hT : ∀ x, FnQ Tryz.prog 120 [pt p, nv s.log.length].toArray [RLgN h (stand1 c d s), Rb true p c h (stand1 c d s) x] (nv (s.tm s.log.length)) := fun x => rterm_q (s := stand1 c d s) (RwOk.rm hh hs1) (i := s.log.length) (by show s.snap ≤ _ ∧ _ ≤ s.log.length; omega)
      refine W.fact (fun w h' => IsA.of (k := k * 4) hRO (by exact pick) (by rw [flat_len peerE_len]; show k * 4 < (oth c s).length * 4; omega) h') fun hA => ?_
      refine run ?_
      refine W.plan [10, 13, 14] mixed (by rfl) (by kernel_rfl) ?_
      refine run ?_
      refine .callQ (hE _) ?_
      refine run ?_
      refine .callQ (hE _) ?_
      refine .callQ (hT _) ?_
      refine run ?_
      refine .rshut h (stand1 c d s) (rxS (ms ++ ((oth c s).take k).map (voteM hint (stand1 c d s))).length (snL (ms ++ ((oth c s).take k).map (voteM hint (stand1 c d s)))).length (fr s.log s.log) fl) hh ?_
      refine .ent (Ent.mk (X := RLg none 0 0 s.log.length []) fun r => RLg.nil) ?_
      refine .callD (rsay_n (c := c) (l0 := s.log) (fl := fl) (ms := ms ++ ((oth c s).take k).map (voteM hint (stand1 c d s))) (s := stand1 c d s) (m := { kind := 3, src := 0, dst := y, term := 0, idx := s.log.length, lt := s.tm s.log.length, hint := hint }) (A := none) (cp := 0) (by rw [List.length_append, List.length_map, List.length_take]; omega) (by show (3 : Nat) ≠ 7; omega)) ?_
      have e : ms ++ ((oth c s).take (k + 1)).map (voteM hint (stand1 c d s)) = ms ++ ((oth c s).take k).map (voteM hint (stand1 c d s)) ++ [rsaid (stand1 c d s) { kind := 3, src := 0, dst := y, term := 0, idx := s.log.length, lt := s.tm s.log.length, hint := hint }] := by
        rw [List.take_add_one, show (oth c s)[k]? = some y from hy, List.map_append, List.append_assoc]; rfl
      have h2 := ih (k + 1) hlt (by omega)
      rw [e] at h2
      refine run ?_
      exact .back h2
    · have hk : k = (oth c s).length := by omega
      subst hk
      rw [List.take_length]
      refine run ?_
      refine .rshut h (stand1 c d s) (rxS (ms ++ (oth c s).map (voteM hint (stand1 c d s))).length (snL (ms ++ (oth c s).map (voteM hint (stand1 c d s)))).length (fr s.log s.log) fl) hh ?_
      exact .doneD Tryz.func130
end
end Go.SL
namespace Go.SL
open Go.Proofs Go.Proofs.YtocogcgnahbpkaaGreat
open Rs (Nd)
attribute [local irreducible] W RS RG RD Fn FnQ OpS QOp Own Sat Rd Gr Mp Rg Lg Ms Es Nod Rp
set_option maxRecDepth 10000
section
variable {c : Cfg} {h : HW} {s : Nd} {x : EX} {p bs : Nat} {d : Int} {l0 : List Rf.Ent} {fl : Nat × Nat} {ms : List Rf.Msg} {m : Rf.Msg} {A : Option Addr} {cp : Nat}
def Ldr (c : Cfg) (s : Nd) : Prop := s.role = 4 → LdN c s ∧ s.hd.length ≤ 1000
def tk1 (s : Nd) : Nd := { s with elapsed := s.elapsed + 1 }
def tk2 (s : Nd) : Nd := { s with elapsed := s.elapsed + 1, beat := s.beat + 1 }
def tk3 (s : Nd) : Nd := { s with elapsed := 0, heir := 0, beat := s.beat + 1, hd := [] }
def tkE (c : Cfg) (s : Nd) : Nd × List Rf.Msg := if c.beat ≤ s.beat then ({ s with beat := 0 }, Rs.apps c { s with beat := 0 }) else (s, [])
theorem tick_eq : Rs.tick c d s = if s.role ≠ 4 then (if s.timeout ≤ s.elapsed + 1 then Rs.begin_ c d (tk1 s) else (tk1 s, [])) else if c.most ≤ s.elapsed + 1 then (if Rs.maj c (1 + s.hd.length) then tkE c (tk3 s) else (Rs.follow c d s.term 0 { tk2 s with elapsed := 0 }, [])) else tkE c (tk2 s) := by
  unfold Rs.tick
  by_cases h0 : s.role ≠ 4
  · simp only [if_pos h0]; rfl
  · simp only [if_neg h0]
    by_cases h1 : c.most ≤ s.elapsed + 1
    · cases hm : Rs.maj c (1 + s.hd.length)
      · simp [h1, hm]; rfl
      · simp [h1, hm]; rfl
    · simp [h1]; rfl
theorem tick_ok {vs : List Value} (hs : Sn c s) (hl : Ldr c s) (hm : ms.length ≤ 300) (hr : s.log.length < 65536) (ht : s.term < 1099511627776) (he : s.elapsed < 1099511627776 ∧ s.beat < 1099511627776) : Fn Tryz.prog 72 [pt p, .agg vs.toArray].toArray [NodS p c bs d s.log fl s ms]
    (Det (iv 0) [NodS p c bs d s.log fl (Rs.tick c d s).1 (ms ++ (Rs.tick c d s).2)]) := by
  rw [tick_eq]
  have hf := hs.fin
  have hn := hs.n
  have hcf := hs.cf
  have hs1 : Sn c (tk1 s) := hs.el' rfl rfl rfl rfl rfl ⟨by show s.elapsed + 1 ≤ _; omega, hs.el.2⟩
  refine Fn.enter Tryz.func72 rfl (by kernel_rfl) rfl ?_
  refine run ?_
  refine .box fun z => ?_
  refine run ?_
  refine .first (NodS p c bs d s.log fl s ms) ?_
  refine .nod fun h hh => ?_
  by_cases h0 : s.role = 4
  · rw [if_neg (by simpa using h0)]
    obtain ⟨hld, hhd⟩ := hl h0
    have hs2 : Sn c (tk2 s) := hs.el' rfl rfl rfl rfl rfl ⟨by show s.elapsed + 1 ≤ _; omega, by show s.beat + 1 ≤ _; omega⟩
    refine .first (Rp c h s) ?_
    refine .rp4 h0 fun bm bn bh g1 g2 g3 => ?_
    by_cases h1 : c.most ≤ s.elapsed + 1
    · rw [if_pos h1]
      refine run ?_
      refine W.plan [] mixed (by rfl) (by kernel_rfl) ?_
      refine run ?_
      refine .lenB (b := bh) (l := s.hd) ?_ (hx := by rw [← g3]; exact rfl)
      refine run ?_
      refine RS.hit 57 rfl (by congr 1 : _ = nv (1 + s.hd.length)) ?_
      refine .callQ (v := .bool (Rs.maj c (1 + s.hd.length))) (maj_q (c := c) (h := h) (s := { tk2 s with elapsed := 0, heir := 0 }) (x := xS d ms.length (fr s.log s.log) fl) (p := p) (q := true) (1 + s.hd.length) (by omega)) ?_
      cases hj : Rs.maj c (1 + s.hd.length) with
      | true =>
        rw [if_pos rfl]
        refine run ?_
        refine .clearB (b := bh) (l := s.hd) ?_ (hx := by rw [← g3]; exact rfl)
        have hs3 : Sn c (tk3 s) := hs.el' rfl rfl rfl rfl rfl ⟨by show 0 ≤ _; omega, by show s.beat + 1 ≤ _; omega⟩
        unfold tkE
        by_cases h2 : c.beat ≤ s.beat + 1
        · rw [if_pos (by exact h2)]
          refine run ?_
          refine W.plan [] mixed (by rfl) (by kernel_rfl) ?_
          refine run ?_
          refine .ent ((Picks.ent (a := [MI bm s.mt (oth c s), MI bn s.nx (oth c s), MB bh []]) picks).trans (Rp.c4 (c := c) (h := h) (s := { tk3 s with beat := 0 }) h0 g1 g2 g3)) ?_
          refine .shutS (l0 := s.log) h h { tk3 s with beat := 0 } { tk3 s with beat := 0 } hh ?_
          refine .callD (sendAll_n (s := { tk3 s with beat := 0 }) (bs := bs) (d := d) (fl := fl) (l0 := s.log) (ms := ms) (hs3.el' rfl rfl rfl rfl rfl ⟨by show 0 ≤ _; omega, by show 0 ≤ _; omega⟩) h0 hld (by omega)) ?_
          refine run ?_
          exact .retD Tryz.func72
        · rw [if_neg (by exact h2)]
          refine run ?_
          refine W.plan [] mixed (by rfl) (by kernel_rfl) ?_
          refine run ?_
          refine .ent ((Picks.ent (a := [MI bm s.mt (oth c s), MI bn s.nx (oth c s), MB bh []]) picks).trans (Rp.c4 (c := c) (h := h) (s := tk3 s) h0 g1 g2 g3)) ?_
          refine .shutS (l0 := s.log) h h (tk3 s) (tk3 s) hh ?_
          dsimp only; rw [List.append_nil]
          exact .retD Tryz.func72
      | false =>
        rw [if_neg (by simp)]
        refine run ?_
        refine .callD (follow_ok (c := c) (h := h) (s := { tk2 s with elapsed := 0, heir := 0 }) (x := xS d ms.length (fr s.log s.log) fl) (p := p) (term := s.term) (leader := 0) ((Sn.el' (s' := { tk2 s with elapsed := 0, heir := 0 }) hs rfl rfl rfl rfl rfl ⟨by show 0 ≤ _; omega, by show s.beat + 1 ≤ _; omega⟩).at hh)) ?_
        refine run ?_
        refine .ent (Rp.c1 (c := c) (h := h) (s := Rs.follow c d s.term 0 { tk2 s with elapsed := 0 }) rfl) ?_
        refine .shutS (l0 := s.log) h h (Rs.follow c d s.term 0 { tk2 s with elapsed := 0 }) (Rs.follow c d s.term 0 { tk2 s with elapsed := 0 }) hh ?_
        dsimp only; rw [List.append_nil]
        exact .retD Tryz.func72
    · rw [if_neg h1]
      unfold tkE
      by_cases h2 : c.beat ≤ s.beat + 1
      · rw [if_pos (by exact h2)]
        refine run ?_
        refine W.plan [] mixed (by rfl) (by kernel_rfl) ?_
        refine run ?_
        refine W.plan [] mixed (by rfl) (by kernel_rfl) ?_
        refine run ?_
        refine .ent ((Picks.ent (a := [MI bm s.mt (oth c s), MI bn s.nx (oth c s), MB bh s.hd]) picks).trans (Rp.c4 (c := c) (h := h) (s := { tk2 s with beat := 0 }) h0 g1 g2 g3)) ?_
        refine .shutS (l0 := s.log) h h { tk2 s with beat := 0 } { tk2 s with beat := 0 } hh ?_
        refine .callD (sendAll_n (s := { tk2 s with beat := 0 }) (bs := bs) (d := d) (fl := fl) (l0 := s.log) (ms := ms) (hs2.el' rfl rfl rfl rfl rfl ⟨by show s.elapsed + 1 ≤ _; omega, by show 0 ≤ _; omega⟩) h0 hld (by omega)) ?_
        refine run ?_
        exact .retD Tryz.func72
      · rw [if_neg (by exact h2)]
        refine run ?_
        refine W.plan [] mixed (by rfl) (by kernel_rfl) ?_
        refine run ?_
        refine W.plan [] mixed (by rfl) (by kernel_rfl) ?_
        refine run ?_
        refine .ent ((Picks.ent (a := [MI bm s.mt (oth c s), MI bn s.nx (oth c s), MB bh s.hd]) picks).trans (Rp.c4 (c := c) (h := h) (s := tk2 s) h0 g1 g2 g3)) ?_
        refine .shutS (l0 := s.log) h h (tk2 s) (tk2 s) hh ?_
        dsimp only; rw [List.append_nil]
        exact .retD Tryz.func72
  · rw [if_pos (by simpa using h0)]
    by_cases h1 : s.timeout ≤ s.elapsed + 1
    · rw [if_pos h1]
      refine run ?_
      refine W.plan [] mixed (by rfl) (by kernel_rfl) ?_
      refine run ?_
      refine .shutS (l0 := s.log) h h (tk1 s) s hh ?_
      refine .callD (begin_ok (s := tk1 s) (bs := bs) (d := d) (fl := fl) hs1 hm hr ht h0) ?_
      refine run ?_
      exact .retD Tryz.func72
    · rw [if_neg h1]
      refine run ?_
      refine W.plan [] mixed (by rfl) (by kernel_rfl) ?_
      refine run ?_
      refine .shutS (l0 := s.log) h h (tk1 s) s hh ?_
      dsimp only; rw [List.append_nil]
      exact .retD Tryz.func72
end
end Go.SL
