/-
  A part of the proof of what E53 says at its head.
-/
import Derived.Test.YtocogcgnahbpkaaGreatE16
import Derived.Test.YtocogcgnahbpkaaGreatE19
import Derived.Test.YtocogcgnahbpkaaGreatE25
namespace Go.SL
open Go.Proofs Go.Proofs.YtocogcgnahbpkaaGreat
open Rs (Nd)
set_option maxRecDepth 10000
theorem RS.rlg {P : Program} {n : Nat} {ops : Array Oper} {rest : List Oper} {C' : Env → List HP → Prop} {e : Env} {L : List HP} {A : Option Addr} {n' c i : Nat} {l : List Rf.Ent} (h : ∀ les : List LE, les.map (·.e) = ents i l → RS P n ops rest C' e (Gr 3 67 A n' c (les.flatMap encLE) :: Ds les :: L)) : RS P n ops rest C' e (RLg A n' c i l :: L) :=
  fun F a w Q h1 h2 h3 => let ⟨les, e1, e2⟩ := Sat.rlg h2; h les e1 F a w Q h1 e2 h3
attribute [local irreducible] W RS RG RD Fn FnQ OpS QOp Own Sat Rd Gr Mp Rg Lg Ms Es Nod Rp NodI RLg RMs REs RN RLd RNF
section
variable {c : Cfg} {h : RW} {s : Nd} {x : RX} {p : Nat} {q : Bool} {d : Int} {ms : List Rf.Msg} {m : Rf.Msg} {A : Option Addr} {cp : Nat} {l0 : List Rf.Ent} {fl : Nat × Nat}
theorem Ds.drop {les : List LE} {r : Res} (k : Nat) (h : Ds les r) : Ds (les.drop k) r := Ds.sub h fun z hz => List.mem_of_mem_drop hz
theorem rcompact_ok {i : Nat} (hs : Sn c s) (hi : s.snap < i ∧ i ≤ s.commit) : Fn Tryz.prog 92 [pt p, nv i].toArray [RNS p c l0 fl s ms]
    (Det (iv 0) [RNF p c (Rs.compact i s) (rxS ms.length (snL ms).length (fr l0 s.log) fl) ms]) := by
  have hf := hs.fin
  refine Fn.enter Tryz.func92 rfl (by kernel_rfl) rfl ?_
  refine .rn fun h hh => ?_
  have hln := hh.1
  refine .first (RLgN h s) ?_
  refine .rlg fun les hles => ?_
  have hlen := les_len hles
  rw [List.length_drop] at hlen
  refine W.fact (fun w h => Gr.cap h) fun hcap => ?_
  refine run ?_
  refine .callQ (v := nv (s.tm i)) (FnQ.pre (rterm_r (x := rxS ms.length (snL ms).length (fr l0 s.log) fl) (p := p) (hh.rm hs) hles (i := i) (by omega)) (lend2 (q := true) (X := Gr 3 67 h.lA h.ln h.lc (les.flatMap encLE)) .gr)) ?_
  refine run ?_
  refine W.plan [] mixed (by rfl) (by kernel_rfl) ?_
  refine run ?_
  refine RG.hit 35 rfl (by congr 1; omega : _ = nv (i - s.snap)) ?_
  refine RG.takeP rfl rfl rfl rfl (Q.sliceFrom (lo := i - s.snap) rfl rfl rfl rfl rfl rfl (by omega)) ?_
  refine run ?_
  generalize hk : i - s.snap = k
  refine .ent ((Picks.ent (a := [Gr 3 67 h.lA h.ln h.lc (les.flatMap encLE)]) picks).trans (Ent.of (Y := Rd false (if h.lc = k then h.lA else adr h.lA (k * 3)) ((les.drop k).flatMap encLE)) fun r hr => dropRd k h.lc hr.rd.lend (by omega))) ?_
  refine .ent ((Picks.ent (a := [Ds les]) picks).trans (Ent.of (Y := Ds (les.drop k)) fun r hr => hr.drop k)) ?_
  refine .ent ((Picks.ent (a := [Rd false (if h.lc = k then h.lA else adr h.lA (k * 3)) ((les.drop k).flatMap encLE), Ds (les.drop k)]) picks).trans (RLd.close (i := i) (l := s.log.drop i) (by
    rw [List.map_drop, hles, ents_drop, List.drop_drop, show s.snap + k = i by omega]))) ?_
  refine .rnfshut (c := c) (p := p) (ms := ms) { h with lA := if h.lc = k then h.lA else adr h.lA (k * 3), lc := h.lc - k, ln := h.ln - k, tS := s.tm i } (Rs.compact i s) (rxS ms.length (snL ms).length (fr l0 s.log) fl) ⟨⟨by show h.ln - k = s.log.length - i; omega, rfl⟩, by show h.ln - k ≤ h.lc - k; omega⟩ ?_
  exact .retD Tryz.func92
theorem rinstalled_ok {i term : Nat} {L : List Rf.Ent} (hs : Sn c s) (hr : s.role ≠ 4) (hi : s.commit < i ∧ i = L.length ∧ i < 1099511627776) (ht : 1 ≤ term ∧ term ≤ s.term) (hL : Rf.tmL L L.length = term) : Fn Tryz.prog 93 [pt p, nv i, nv term].toArray [RNS p c l0 fl s ms]
    (Det (iv 0) [RNF p c (Rs.installed L s) (rxS ms.length (snL ms).length (i + 1) fl) ms]) := by
  have hf := hs.fin
  refine Fn.enter Tryz.func93 rfl (by kernel_rfl) rfl ?_
  refine .rn fun h hh => ?_
  have hln := hh.1
  refine .first (RLgN h s) ?_
  refine .rlg fun les hles => ?_
  have hlen := les_len hles
  rw [List.length_drop] at hlen
  refine W.fact (fun w h => Gr.cap h) fun hcap => ?_
  refine run ?_
  refine .callQ (out_f (a := i) (lo := 1) (hi := 1099511627776) (by omega) (by omega)) ?_
  refine run ?_
  refine .callQ (out_f (a := term) (lo := 1) (hi := s.term) (by omega) (by omega)) ?_
  refine run ?_
  refine .callQ (rknows_q (x := rxS ms.length (snL ms).length (fr l0 s.log) fl) (p := p) (q := true) (hh.rm hs) i) ?_
  have hN : ∀ L1 : List Rf.Ent, RwOk { s with log := L, snap := i, commit := i } { h with lA := none, lc := 0, ln := 0, tS := term } := fun _ => ⟨by show 0 = L.length - i; omega, by show term = Rf.tmL L i; rw [hi.2.1, hL]⟩
  by_cases h1 : i ≤ s.log.length
  · have hT := FnQ.pre (rterm_r (x := rxS ms.length (snL ms).length (fr l0 s.log) fl) (p := p) (hh.rm hs) hles (i := i) (by omega)) (lend2 (q := true) (X := Gr 3 67 h.lA h.ln h.lc (les.flatMap encLE)) .gr)
    rw [decide_eq_true ⟨by omega, h1⟩]
    refine run ?_
    refine .callQ hT ?_
    by_cases h2 : s.tm i = term
    · rw [inst_keep ⟨by rw [← hi.2.1]; exact h1, by rw [hL, ← hi.2.1]; exact h2⟩, ← hi.2.1]
      refine run ?_
      refine W.plan [] mixed (by rfl) (by kernel_rfl) ?_
      refine run ?_
      refine RG.hit 51 rfl (by congr 1; omega : _ = nv (i - s.snap)) ?_
      refine RG.takeP rfl rfl rfl rfl (Q.sliceFrom (lo := i - s.snap) rfl rfl rfl rfl rfl rfl (by omega)) ?_
      refine run ?_
      generalize hk : i - s.snap = k
      refine .ent ((Picks.ent (a := [Gr 3 67 h.lA h.ln h.lc (les.flatMap encLE)]) picks).trans (Ent.of (Y := Rd false (if h.lc = k then h.lA else adr h.lA (k * 3)) ((les.drop k).flatMap encLE)) fun r hr => dropRd k h.lc hr.rd.lend (by omega))) ?_
      refine .ent ((Picks.ent (a := [Ds les]) picks).trans (Ent.of (Y := Ds (les.drop k)) fun r hr => hr.drop k)) ?_
      refine .ent ((Picks.ent (a := [Rd false (if h.lc = k then h.lA else adr h.lA (k * 3)) ((les.drop k).flatMap encLE), Ds (les.drop k)]) picks).trans (RLd.close (i := i) (l := s.log.drop i) (by
        rw [List.map_drop, hles, ents_drop, List.drop_drop, show s.snap + k = i by omega]))) ?_
      refine .rnfshut (c := c) (p := p) (ms := ms) { h with lA := if h.lc = k then h.lA else adr h.lA (k * 3), lc := h.lc - k, ln := h.ln - k, tS := term } { s with snap := i, commit := i } (rxS ms.length (snL ms).length (i + 1) fl) ⟨⟨by show h.ln - k = s.log.length - i; omega, h2.symm⟩, by show h.ln - k ≤ h.lc - k; omega⟩ ?_
      exact .retD Tryz.func93
    · rw [inst_new (by rw [hL, ← hi.2.1]; exact fun hc => h2 hc.2), ← hi.2.1]
      refine run ?_
      refine .ent (Ent.mk (X := RLd none i (L.drop i)) fun r => RLg.lend (n := 0) (c := 0) (by rw [List.drop_eq_nil_of_le (by omega)]; exact RLg.nil)) ?_
      refine .rnfshut (c := c) (p := p) (ms := ms) { h with lA := none, lc := 0, ln := 0, tS := term } { s with log := L, snap := i, commit := i } (rxS ms.length (snL ms).length (i + 1) fl) ⟨hN L, Nat.le_refl _⟩ ?_
      exact .retD Tryz.func93
  · rw [inst_new (by rw [hL, ← hi.2.1]; exact fun hc => h1 hc.1), ← hi.2.1]
    rw [decide_eq_false (fun hc => h1 hc.2)]
    refine run ?_
    refine .ent (Ent.mk (X := RLd none i (L.drop i)) fun r => RLg.lend (n := 0) (c := 0) (by rw [List.drop_eq_nil_of_le (by omega)]; exact RLg.nil)) ?_
    refine .rnfshut (c := c) (p := p) (ms := ms) { h with lA := none, lc := 0, ln := 0, tS := term } { s with log := L, snap := i, commit := i } (rxS ms.length (snL ms).length (i + 1) fl) ⟨hN L, Nat.le_refl _⟩ ?_
    exact .retD Tryz.func93
theorem oth_index {y : Nat} (hy : y ∈ oth c s) : ∃ i : Nat, (oth c s)[i]? = some y := List.mem_iff_getElem?.1 hy
theorem rabout_e {e : EV} (hs : Sn c s) (hy : e.peer ∉ oth c s) : Fn Tryz.prog 94 [pt p, .agg (encV e).toArray].toArray [RNS p c l0 fl s ms] (Det (iv 161) [RNS p c l0 fl s ms]) := by
  have hn := hs.n
  refine Fn.enter Tryz.func94 rfl (by kernel_rfl) rfl ?_
  refine run ?_
  refine .box fun z => ?_
  refine run ?_
  refine .first (RNS p c l0 fl s ms) ?_
  refine .rn fun h hh => ?_
  refine run ?_
  refine .callQ (rother_no (x := rxS ms.length (snL ms).length (fr l0 s.log) fl) (p := p) (q := true) (c := c) (h := h) (s := s) (v := e.peer) hn.2 (fun y hy' hc => hy (by rw [show e.peer = y by omega]; exact hy'))) ?_
  refine run ?_
  refine .rshut h s (rxS ms.length (snL ms).length (fr l0 s.log) fl) hh ?_
  exact .retD Tryz.func94
theorem rfar_ok {e : EV} (hs : Sn c s) (hy : e.peer ∈ oth c s) (he : e.kind = 7) : Fn Tryz.prog 94 [pt p, .agg (encV e).toArray].toArray [RNS p c l0 fl s ms] (Det (iv 0) [RNS p c l0 fl (Rs.far e.peer s) ms]) := by
  have hn := hs.n
  obtain ⟨i, hi⟩ := oth_index hy
  have hil := (List.getElem?_eq_some_iff.1 hi).1
  have hol := oth_len (c := c) (s := s) hn.2
  unfold Rs.far
  refine Fn.enter Tryz.func94 rfl (by kernel_rfl) rfl ?_
  refine run ?_
  refine .box fun z => ?_
  refine run ?_
  refine .first (RNS p c l0 fl s ms) ?_
  refine .rn fun h hh => ?_
  have hRO := othR (c := c) (h := h) (s := s)
  refine run ?_
  refine .callQ (rother_q (x := rxS ms.length (snL ms).length (fr l0 s.log) fl) (p := p) (q := true) (c := c) (h := h) (s := s) hn.2 hi) ?_
  by_cases hr : s.role = 4
  · rw [if_pos hr]
    refine RS.fact (fun w h' => IsA.of (k := i * 4) hRO (by exact pick) (by rw [flat_len peerE_len]; omega) h') fun hA => ?_
    refine run ?_
    refine RS.det0 rfl rfl (O.storeRow (k := i * 4 + 3) (v := .bool false) rfl rfl rfl rfl rfl rfl pick (by rw [flat_len peerE_len]; omega)) ?_
    rw [flat_set (enc := peerE s) peerE_len hi (by omega : 3 < 4), oth_flat (s' := { s with hd := s.hd.filter (· ≠ e.peer) }) hi (by simp [peerE]) (fun z _ hz => by simp [peerE, hz]) rfl]
    refine run ?_
    refine .rshut (ms := ms) (c := c) (p := p) h { s with hd := s.hd.filter (· ≠ e.peer) } (rxS ms.length (snL ms).length (fr l0 s.log) fl) hh ?_
    exact .retD Tryz.func94
  · rw [if_neg hr]
    refine run ?_
    refine .rshut h s (rxS ms.length (snL ms).length (fr l0 s.log) fl) hh ?_
    exact .retD Tryz.func94
theorem rhandOver_e2 {e : EV} (hs : Sn c s) (hy : e.peer ∈ oth c s) (he : e.kind = 6) (hr : s.role ≠ 4) : Fn Tryz.prog 94 [pt p, .agg (encV e).toArray].toArray [RNS p c l0 fl s ms] (Det (iv 162) [RNS p c l0 fl s ms]) := by
  have hn := hs.n
  obtain ⟨i, hi⟩ := oth_index hy
  have hil := (List.getElem?_eq_some_iff.1 hi).1
  have hol := oth_len (c := c) (s := s) hn.2
  refine Fn.enter Tryz.func94 rfl (by kernel_rfl) rfl ?_
  refine run ?_
  refine .box fun z => ?_
  refine run ?_
  refine .first (RNS p c l0 fl s ms) ?_
  refine .rn fun h hh => ?_
  refine run ?_
  refine .callQ (rother_q (x := rxS ms.length (snL ms).length (fr l0 s.log) fl) (p := p) (q := true) (c := c) (h := h) (s := s) hn.2 hi) ?_
  refine run ?_
  refine .rshut h s (rxS ms.length (snL ms).length (fr l0 s.log) fl) hh ?_
  exact .retD Tryz.func94
theorem rhandOver_ok {e : EV} (hs : Sn c s) (hr : s.role = 4) (hy : e.peer ∈ oth c s) (he : e.kind = 6) (hl : LdN c s) (hm : ms.length ≤ 500) (hsl : (snL ms).length ≤ 1000) : Fn Tryz.prog 94 [pt p, .agg (encV e).toArray].toArray [RNS p c l0 fl s ms]
    (Det (iv 0) [RNS p c l0 fl (Rs.handOver c e.peer s).1 (ms ++ (Rs.handOver c e.peer s).2)]) := by
  have hs1 : Sn c { s with heir := e.peer, elapsed := 0 } := hs.mk hs.id hs.term hs.fin hs.data ⟨by show 0 ≤ _; omega, hs.el.2⟩
  have hn := hs.n
  obtain ⟨i, hi⟩ := oth_index hy
  have hil := (List.getElem?_eq_some_iff.1 hi).1
  have hol := oth_len (c := c) (s := s) hn.2
  refine Fn.enter Tryz.func94 rfl (by kernel_rfl) rfl ?_
  refine run ?_
  refine .box fun z => ?_
  refine run ?_
  refine .first (RNS p c l0 fl s ms) ?_
  refine .rn fun h hh => ?_
  have hRO := othR (c := c) (h := h) (s := s)
  have hE : FnQ Tryz.prog 70 [pt p].toArray [Rb true p c h { s with heir := e.peer, elapsed := 0 } (rxS ms.length (snL ms).length (fr l0 s.log) fl)] (nv s.log.length) := rend_q (s := { s with heir := e.peer, elapsed := 0 }) (RwOk.rm hh hs1)
  refine run ?_
  refine .callQ (rother_q (x := rxS ms.length (snL ms).length (fr l0 s.log) fl) (p := p) (q := true) (c := c) (h := h) (s := s) hn.2 hi) ?_
  refine RS.fact (fun w h' => IsA.of (k := i * 4) hRO (by exact pick) (by rw [flat_len peerE_len]; omega) h') fun hA => ?_
  refine run ?_
  refine W.plan [9] mixed (by rfl) (by kernel_rfl) ?_
  refine run ?_
  refine .callQ hE ?_
  unfold Rs.handOver
  dsimp only
  by_cases h1 : s.mt e.peer = s.log.length
  · rw [if_pos (by exact h1)]
    refine run ?_
    refine .rshut (ms := ms) (c := c) (p := p) h { s with heir := e.peer, elapsed := 0 } (rxS ms.length (snL ms).length (fr l0 s.log) fl) hh ?_
    refine .ent (Ent.mk (X := RLg none 0 0 0 []) fun r => RLg.nil) ?_
    refine .callD (rsay_n (c := c) (l0 := l0) (fl := fl) (ms := ms) (s := { s with heir := e.peer, elapsed := 0 }) (m := { kind := 8, src := 0, dst := e.peer, term := 0 }) (A := none) (cp := 0) hm (by show (8 : Nat) ≠ 7; omega)) ?_
    refine run ?_
    exact .retD Tryz.func94
  · rw [if_neg (by exact h1)]
    refine run ?_
    refine .rshut (ms := ms) (c := c) (p := p) h { s with heir := e.peer, elapsed := 0 } (rxS ms.length (snL ms).length (fr l0 s.log) fl) hh ?_
    refine .callD (rsend_n (i := i) (y := e.peer) (c := c) (l0 := l0) (fl := fl) (ms := ms) (s := { s with heir := e.peer, elapsed := 0 }) hs1 hm hi (hl _ hy) hsl) ?_
    refine run ?_
    exact .retD Tryz.func94
end
end Go.SL
namespace Go.SL
open Go.Proofs Go.Proofs.YtocogcgnahbpkaaGreat
open Rs (Nd)
set_option maxRecDepth 10000
attribute [local irreducible] W RS RG RD Fn FnQ OpS QOp Own Sat Rd Gr Mp Rg Lg Ms Es Nod Rp NodI RLg RMs REs RN RLd RNF
section
variable {c : Cfg} {h : RW} {s : Nd} {x : RX} {p : Nat} {q : Bool} {d : Int} {ms : List Rf.Msg} {m : Rf.Msg} {A : Option Addr} {cp : Nat} {l0 : List Rf.Ent} {fl : Nat × Nat}
theorem nilRLg {i : Nat} {L : List HP} : Ent L (RLg none 0 0 i [] :: L) := Ent.mk fun _ => RLg.nil
theorem rhasN_q {X : HP} {A : Option Addr} {cp : Nat} {l : List Nat} {v : Nat} (hX : Reads X A ((li l).map iv)) (hl : l.length ≤ 1099511627776) : FnQ Tryz.prog 113 [.slice A l.length cp, nv v].toArray [X] (.bool (decide (v ∈ l))) := by
  have e : (li l).length = l.length := by unfold li; rw [List.length_map]
  have h := rhas_q (cp := cp) (v := (v : Int)) hX (by rw [e]; exact hl)
  rw [e] at h
  have e2 : decide ((v : Int) ∈ li l) = decide (v ∈ l) := by rw [decide_eq_decide]; exact li_mem
  rwa [e2] at h
theorem rstale_n (hm : ms.length ≤ 500) : Fn Tryz.prog 121 [pt p, .agg (encM m A cp).toArray].toArray [RNS p c l0 fl s ms] (Det (.tuple #[]) [RNS p c l0 fl s (ms ++ Rs.old m s)]) := by
  unfold Rs.old
  have hS : ∀ k i : Nat, (k : Nat) ≠ 7 → Fn Tryz.prog 134 _ _ _ := fun k i h => rsay_n (p := p) (c := c) (l0 := l0) (fl := fl) (ms := ms) (s := s) (m := { kind := k, src := 0, dst := m.src, term := 0, idx := i, rej := true }) (A := none) (cp := 0) hm (by exact h)
  refine Fn.enter Tryz.func121 rfl (by kernel_rfl) rfl ?_
  refine run ?_
  refine .box fun z => ?_
  by_cases h5 : m.kind = 5
  · rw [if_pos (.inl h5)]
    refine run ?_
    refine .ent (nilRLg (i := m.idx)) ?_
    refine .callD (hS 6 m.idx (by omega)) ?_
    refine run ?_
    exact .doneD Tryz.func121
  · by_cases h7 : m.kind = 7
    · rw [if_pos (.inr h7)]
      refine run ?_
      refine .ent (nilRLg (i := m.idx)) ?_
      refine .callD (hS 6 m.idx (by omega)) ?_
      refine run ?_
      exact .doneD Tryz.func121
    · rw [if_neg (by omega)]
      by_cases h1 : m.kind = 1
      · rw [if_pos h1]
        refine run ?_
        refine .ent (nilRLg (i := 0)) ?_
        refine .callD (hS 2 0 (by omega)) ?_
        refine run ?_
        exact .doneD Tryz.func121
      · rw [if_neg h1]
        by_cases h3 : m.kind = 3
        · rw [if_pos h3]
          refine run ?_
          refine .ent (nilRLg (i := 0)) ?_
          refine .callD (hS 4 0 (by omega)) ?_
          refine run ?_
          exact .doneD Tryz.func121
        · rw [if_neg h3, List.append_nil]
          refine run ?_
          exact .doneD Tryz.func121
theorem rpreVote_n (hs : Sn c s) (hm : ms.length ≤ 500) : Fn Tryz.prog 122 [pt p, .agg (encM m A cp).toArray].toArray [RNS p c l0 fl s ms] (Det (.tuple #[]) [RNS p c l0 fl (Rs.preVote m s).1 (ms ++ (Rs.preVote m s).2)]) := by
  unfold Rs.preVote
  have hS := rsay_n (p := p) (c := c) (l0 := l0) (fl := fl) (ms := ms) (s := s) (m := { kind := 2, src := 0, dst := m.src, term := 0, rej := true }) (A := none) (cp := 0) hm (by show 2 ≠ 7; omega)
  refine Fn.enter Tryz.func122 rfl (by kernel_rfl) rfl ?_
  refine run ?_
  refine .box fun z => ?_
  refine run ?_
  refine .first (RNS p c l0 fl s ms) ?_
  refine .rn fun h hh => ?_
  by_cases h1 : s.term < m.term
  · refine W.plan [10] mixed (by rfl) (by kernel_rfl) ?_
    refine run ?_
    refine .callQ (rgood_q (x := rxS ms.length (snL ms).length (fr l0 s.log) fl) (p := p) (q := true) (m := m) (A := A) (cp := cp) (hh.rm hs)) ?_
    cases hg : Rs.good m s with
    | true =>
      rw [if_pos ⟨h1, rfl⟩]
      refine run ?_
      refine .rshut h s (rxS ms.length (snL ms).length (fr l0 s.log) fl) hh ?_
      refine .ent (nilRLg (i := 0)) ?_
      have e : Rs.re s m 2 m.term 0 false 0 = rsaid s { kind := 2, src := 0, dst := m.src, term := m.term } := by unfold rsaid Rs.re; rw [if_neg (by show m.term ≠ 0; omega)]
      dsimp only
      rw [e]
      refine .callD (rsay_n (p := p) (c := c) (l0 := l0) (fl := fl) (ms := ms) (s := s) (m := { kind := 2, src := 0, dst := m.src, term := m.term }) (A := none) (cp := 0) hm (by show 2 ≠ 7; omega)) ?_
      refine run ?_
      exact .retD Tryz.func122
    | false =>
      rw [if_neg (by simp)]
      refine run ?_
      refine .rshut h s (rxS ms.length (snL ms).length (fr l0 s.log) fl) hh ?_
      refine .ent (nilRLg (i := 0)) ?_
      refine .callD hS ?_
      refine run ?_
      exact .doneD Tryz.func122
  · rw [if_neg (by omega)]
    refine W.plan [10] mixed (by rfl) (by kernel_rfl) ?_
    refine run ?_
    refine .rshut h s (rxS ms.length (snL ms).length (fr l0 s.log) fl) hh ?_
    refine .ent (nilRLg (i := 0)) ?_
    refine .callD hS ?_
    refine run ?_
    exact .doneD Tryz.func122
theorem graR : Reads (GraG h s) h.gA ((li s.gr).map iv) := .gr
theorem refR : Reads (RefG h s) h.rA ((li s.rf).map iv) := .gr
theorem li_snoc {l : List Nat} {y : Nat} : (li (l ++ [y])).map iv = (li l).map iv ++ [nv y] := by unfold li; simp
theorem rpreReply_n (hs : Sn c s) (hm : ms.length ≤ 300) (hg : s.gr.length ≤ 1000) (hr : s.log.length < 65536) (ht : s.term < 1099511627776) (hh0 : s.role = 2 → s.heir = 0) :
    Fn Tryz.prog 123 [pt p, .agg (encM m A cp).toArray, iv d].toArray [RNS p c s.log fl s ms] (Det (.tuple #[]) [RNS p c s.log fl (Rs.preReply c d m s).1 (ms ++ (Rs.preReply c d m s).2)]) := by
  unfold Rs.preReply
  have hpl := put_len (l := s.gr) (x := m.src)
  refine Fn.enter Tryz.func123 rfl (by kernel_rfl) rfl ?_
  refine run ?_
  refine .box fun z => ?_
  refine run ?_
  refine .first (RNS p c s.log fl s ms) ?_
  refine .rn fun h hh => ?_
  have hRG := graR (h := h) (s := s)
  by_cases h2 : s.role = 2
  · by_cases hj : m.rej = true
    · rw [if_pos (.inr (.inl hj))]
      refine W.plan [] mixed (by rfl) (by kernel_rfl) ?_
      refine run ?_
      refine RG.hit 15 rfl (by rw [hj] : _ = .bool true) ?_
      refine run ?_
      refine .rshut h s (rxS ms.length (snL ms).length (fr s.log s.log) fl) hh ?_
      dsimp only; rw [List.append_nil]
      exact .retD Tryz.func123
    · have hj : m.rej = false := by simpa using hj
      by_cases ht2 : m.term = s.term + 1
      · rw [if_neg (by simp [h2, ht2, hj])]
        refine W.plan [] mixed (by rfl) (by kernel_rfl) ?_
        refine run ?_
        refine RG.hit 15 rfl (by rw [hj] : _ = .bool false) ?_
        refine run ?_
        refine W.plan [6] mixed (by rfl) (by kernel_rfl) ?_
        refine run ?_
        refine .callQ (rhasN_q (l := s.gr) (v := m.src) hRG (by omega)) ?_
        have hs1 : Sn c { s with gr := Rs.put s.gr m.src } := hs.el' rfl rfl rfl rfl rfl hs.el
        by_cases hin : m.src ∈ s.gr
        case pos =>
          have ep : Rs.put s.gr m.src = s.gr := if_pos hin
          have es : { s with gr := s.gr } = s := rfl
          rw [ep] at hs1 hpl ⊢
          rw [decide_eq_true hin]
          refine run ?_
          refine .callQ (v := .bool (Rs.maj c s.gr.length)) (many_q (p := p) (c := c) (h := h) (s := s) (x := rxS ms.length (snL ms).length (fr s.log s.log) fl) (q := true) s.gr.length (by omega)) ?_
          refine .rshut h s (rxS ms.length (snL ms).length (fr s.log s.log) fl) hh ?_
          dsimp only
          cases hmj : Rs.maj c s.gr.length with
          | true =>
            rw [if_pos rfl]
            refine run ?_
            refine .callD (rstand_n (hint := 0) (s := s) (c := c) (p := p) (d := d) (fl := fl) (ms := ms) hs hm hr ht (hh0 h2)) ?_
            refine run ?_
            exact .doneD Tryz.func123
          | false =>
            rw [if_neg (by simp)]
            dsimp only; rw [List.append_nil]
            refine run ?_
            exact .doneD Tryz.func123
        case neg =>
          have ep : Rs.put s.gr m.src = s.gr ++ [m.src] := if_neg hin
          rw [ep] at hs1 hpl ⊢
          rw [decide_eq_false hin]
          refine run ?_
          refine W.plan [] mixed (by rfl) (by kernel_rfl) ?_
          refine run ?_
          refine .lit fun z2 => ?_
          refine run ?_
          refine .push (sz := 1) (nn := s.gr.length) (m := 1) (Src.pick rfl rfl .hd .own rfl rfl rfl) fun A2 c2 => ?_
          rw [show s.gr.length + 1 = (s.gr ++ [m.src]).length by simp]
          refine run ?_
          refine .callQ (v := .bool (Rs.maj c (s.gr ++ [m.src]).length)) (many_q (p := p) (c := c) (h := { h with gA := A2, gc := c2 }) (s := { s with gr := s.gr ++ [m.src] }) (x := rxS ms.length (snL ms).length (fr s.log s.log) fl) (q := true) (s.gr ++ [m.src]).length (by omega)) ?_
          refine .ent ((Picks.ent (a := [Gr 1 3 A2 (s.gr ++ [m.src]).length c2 ((li s.gr).map iv ++ [nv m.src])]) picks).trans (Ent.of (Y := GraG { h with gA := A2, gc := c2 } { s with gr := s.gr ++ [m.src] }) fun r hr => by rw [GraG, li_snoc]; exact hr)) ?_
          refine .rshut { h with gA := A2, gc := c2 } { s with gr := s.gr ++ [m.src] } (rxS ms.length (snL ms).length (fr s.log s.log) fl) hh ?_
          dsimp only at hs1 ⊢
          generalize hg2 : s.gr ++ [m.src] = g2 at hs1 hpl ⊢
          cases hmj : Rs.maj c g2.length with
          | true =>
            rw [if_pos rfl]
            refine run ?_
            refine .callD (rstand_n (hint := 0) (s := { s with gr := g2 }) (c := c) (p := p) (d := d) (fl := fl) (ms := ms) hs1 hm hr ht (hh0 h2)) ?_
            refine run ?_
            exact .doneD Tryz.func123
          | false =>
            rw [if_neg (by simp)]
            dsimp only; rw [List.append_nil]
            refine run ?_
            exact .doneD Tryz.func123
      · rw [if_pos (.inr (.inr ht2))]
        refine W.plan [] mixed (by rfl) (by kernel_rfl) ?_
        refine run ?_
        refine RG.hit 15 rfl (by rw [hj] : _ = .bool false) ?_
        refine run ?_
        refine .rshut h s (rxS ms.length (snL ms).length (fr s.log s.log) fl) hh ?_
        dsimp only; rw [List.append_nil]
        exact .retD Tryz.func123
  · rw [if_pos (.inl h2)]
    refine W.plan [] mixed (by rfl) (by kernel_rfl) ?_
    refine run ?_
    refine .rshut h s (rxS ms.length (snL ms).length (fr s.log s.log) fl) hh ?_
    dsimp only; rw [List.append_nil]
    exact .retD Tryz.func123
end
end Go.SL
