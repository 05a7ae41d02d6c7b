/-
  A part of the proof of what E53 says at its head.
-/
import Derived.Test.YtocogcgnahbpkaaGreatE22
namespace Go.SL
open Go.Proofs Go.Proofs.YtocogcgnahbpkaaGreat
open Rs (Nd)
set_option maxRecDepth 10000
def snL (ms : List Rf.Msg) : List Nat := (ms.filter fun m => m.kind = 7).map (·.dst)
theorem snL_snoc {ms : List Rf.Msg} {m : Rf.Msg} : snL (ms ++ [m]) = if m.kind = 7 then snL ms ++ [m.dst] else snL ms := by
  unfold snL; rw [List.filter_append]
  by_cases h : m.kind = 7
  · rw [if_pos h, List.filter_cons_of_pos (by simpa using h), List.map_append]; rfl
  · rw [if_neg h, List.filter_cons_of_neg (by simpa using h)]; simp
abbrev GraG (h : RW) (s : Nd) : HP := Gr 1 3 h.gA s.gr.length h.gc ((li s.gr).map iv)
abbrev RefG (h : RW) (s : Nd) : HP := Gr 1 3 h.rA s.rf.length h.rc ((li s.rf).map iv)
abbrev SnpG (h : RW) (x : RX) (ms : List Rf.Msg) : HP := Gr 1 3 h.sA x.sn h.sc ((li (snL ms)).map iv)
def RwOk (s : Nd) (h : RW) : Prop := h.ln = s.log.length - s.snap ∧ h.tS = s.tm s.snap
def RN (p : Nat) (c : Cfg) (s : Nd) (x : RX) (ms : List Rf.Msg) : HP := fun r => ∃ h : RW, RwOk s h ∧ Stars [Rb true p c h s x, RLgN h s, OthG c h s, GraG h s, RefG h s, RMs h.mA x.mn h.mc ms, SnpG h x ms] r
theorem RwOk.rm {c : Cfg} {s : Nd} {h : RW} (hh : RwOk s h) (hs : Sn c s) : Rm c h s := ⟨hs, hh.1, hh.2⟩
section
variable {P : Program} {n f : Nat} {e : Env} {L L' : List HP} {R : Fin} {k : List Item} {ds : List Deferred} {c : Cfg} {h : RW} {s : Nd} {p : Nat} {x : RX} {ms : List Rf.Msg} {v : Value} {ar : Array Value} {ops : Array Oper} {rest : List Oper} {C : Env → List HP → Prop} {qs : List Nat} {T : List HP} {pl : Pl} {l0 : List Rf.Ent} {fl : Nat × Nat}
theorem W.rn (H : ∀ h, RwOk s h → W P f n R k e ds (Rb true p c h s x :: RLgN h s :: OthG c h s :: GraG h s :: RefG h s :: RMs h.mA x.mn h.mc ms :: SnpG h x ms :: L)) : W P f n R k e ds (RN p c s x ms :: L) :=
  .ex fun h => .pur fun hh => .ent (Ent.star (l := [_, _, _, _, _, _, _])) (H h hh)
theorem RS.rn (H : ∀ h, RwOk s h → RS P n ops rest C e (Rb true p c h s x :: RLgN h s :: OthG c h s :: GraG h s :: RefG h s :: RMs h.mA x.mn h.mc ms :: SnpG h x ms :: L)) : RS P n ops rest C e (RN p c s x ms :: L) :=
  .ex' fun h => .pur' fun hh => .ent (Ent.star (l := [_, _, _, _, _, _, _])) (H h hh)
theorem FnQ.rn (he : Enters P f) (H : ∀ h, RwOk s h → FnQ P f ar (Rb true p c h s x :: RLgN h s :: OthG c h s :: GraG h s :: RefG h s :: RMs h.mA x.mn h.mc ms :: SnpG h x ms :: L) v) : FnQ P f ar (RN p c s x ms :: L) v :=
  .ex he fun h => .pur he fun hh => (H h hh).pre (Ent.star (l := [_, _, _, _, _, _, _]))
theorem Fn.rn (he : Enters P f) (H : ∀ h, RwOk s h → Fn P f ar (Rb true p c h s x :: RLgN h s :: OthG c h s :: GraG h s :: RefG h s :: RMs h.mA x.mn h.mc ms :: SnpG h x ms :: L) R) : Fn P f ar (RN p c s x ms :: L) R :=
  .exi he fun h => .pur he fun hh => (H h hh).pre (Ent.star (l := [_, _, _, _, _, _, _]))
abbrev rxS (n sn f : Nat) (fl : Nat × Nat) : RX := ⟨n, sn, f, fl.1, fl.2⟩
abbrev RNS (p : Nat) (c : Cfg) (l0 : List Rf.Ent) (fl : Nat × Nat) (s : Nd) (ms : List Rf.Msg) : HP := RN p c s ⟨ms.length, (snL ms).length, fr l0 s.log, fl.1, fl.2⟩ ms
theorem RNS.eq {n sn f : Nat} (h1 : ms.length = n) (h2 : (snL ms).length = sn) (h3 : fr l0 s.log = f) : RNS p c l0 fl s ms = RN p c s (rxS n sn f fl) ms := by subst h1; subst h2; subst h3; rfl
theorem RN.shut (h : RW) (s : Nd) (hh : RwOk s h) (hp : Picks [Rb true p c h s x, RLgN h s, OthG c h s, GraG h s, RefG h s, RMs h.mA x.mn h.mc ms, SnpG h x ms] L L') : Ent L (RN p c s x ms :: L') :=
  hp.ent.trans ((Ent.unstar (l := [_, _, _, _, _, _, _])).trans ((Ent.pur (X := Stars [Rb true p c h s x, RLgN h s, OthG c h s, GraG h s, RefG h s, RMs h.mA x.mn h.mc ms, SnpG h x ms]) hh).trans (Ent.exi (q := fun h => fun r => RwOk s h ∧ Stars [Rb true p c h s x, RLgN h s, OthG c h s, GraG h s, RefG h s, RMs h.mA x.mn h.mc ms, SnpG h x ms] r) h)))
theorem W.rshut (h : RW) (s : Nd) (x : RX) (hh : RwOk s h) (hn : W P f n R k e ds (RN p c s x ms :: L')) (hp : Picks [Rb true p c h s x, RLgN h s, OthG c h s, GraG h s, RefG h s, RMs h.mA x.mn h.mc ms, SnpG h x ms] L L' := by exact picks) : W P f n R k e ds L := .ent (RN.shut h s hh hp) hn
theorem RS.rshut (h : RW) (s : Nd) (x : RX) (hh : RwOk s h) (hn : RS P n ops rest C e (RN p c s x ms :: L')) (hp : Picks [Rb true p c h s x, RLgN h s, OthG c h s, GraG h s, RefG h s, RMs h.mA x.mn h.mc ms, SnpG h x ms] L L' := by exact picks) : RS P n ops rest C e L := .ent (RN.shut h s hh hp) hn
theorem RG.rshut (h : RW) (s : Nd) (x : RX) (hh : RwOk s h) (hn : RG P n qs T ops pl C e (RN p c s x ms :: L')) (hp : Picks [Rb true p c h s x, RLgN h s, OthG c h s, GraG h s, RefG h s, RMs h.mA x.mn h.mc ms, SnpG h x ms] L L' := by exact picks) : RG P n qs T ops pl C e L := .ent (RN.shut h s hh hp) hn
end
attribute [local irreducible] W RS RG RD Fn FnQ OpS QOp Own Sat Rd Gr Mp Rg Lg Ms Es Nod Rp NodI RLg RMs REs RN
section
variable {c : Cfg} {h : RW} {s : Nd} {x : RX} {p : Nat} {q : Bool} {d : Int} {ms : List Rf.Msg} {m : Rf.Msg} {A : Option Addr} {cp : Nat} {l0 : List Rf.Ent} {fl : Nat × Nat}
theorem rterm_r (hs : Rm c h s) {les : List LE} (hl : les.map (·.e) = ents s.snap (s.log.drop s.snap)) {i : Nat} (hi : s.snap ≤ i ∧ i ≤ s.log.length) : FnQ Tryz.prog 120 [pt p, iv i].toArray [Rb false p c h s x, Rd false h.lA (les.flatMap encLE)] (nv (s.tm i)) := by
  have hll := les_len hl
  simp only [List.length_drop] at hll
  refine Fn.quietD (M := [Rb false p c h s x, Rd false h.lA (les.flatMap encLE)]) ?_ pers2
  have hf := hs.sn.fin
  have hln := hs.ln
  have hR : Reads (Rd false h.lA (les.flatMap encLE)) h.lA (les.flatMap encLE) := .rd
  refine Fn.enter Tryz.func120 rfl (by kernel_rfl) rfl ?_
  by_cases h0 : i = s.snap
  · subst h0
    refine run ?_
    rw [← hs.tS]
    exact .retD Tryz.func120
  · obtain ⟨y, hy⟩ : ∃ y, les[i - s.snap - 1]? = some y := ⟨_, List.getElem?_eq_getElem (by omega)⟩
    obtain ⟨en, he, hye⟩ := les_at hl hy
    have ht : s.tm i = en.term := by
      unfold Nd.tm Rf.tmL
      rw [List.getElem?_drop, show s.snap + (i - s.snap - 1) = i - 1 by omega] at he
      rw [if_neg (by omega), he]; rfl
    refine W.fact (fun w h => IsA.of (k := (i - s.snap - 1) * 3) hR (by exact pick) (by rw [flat_len lenLE]; omega) h) fun hA => ?_
    refine run ?_
    refine W.plan [] mixed (by rfl) (by kernel_rfl) ?_
    refine run ?_
    refine RG.hit 25 rfl (by congr 1; omega : _ = nv (i - s.snap - 1)) ?_
    refine run ?_
    rw [ht]
    refine W.hit 4 rfl (by simp [encLE, hye] : _ = nv en.term) ?_
    exact .retD Tryz.func120
theorem rterm_q (hs : Rm c h s) {i : Nat} (hi : s.snap ≤ i ∧ i ≤ s.log.length) : FnQ Tryz.prog 120 [pt p, iv i].toArray [RLgN h s, Rb q p c h s x] (nv (s.tm i)) := by
  refine FnQ.rlg (fun les hl => ?_) (.of Tryz.func120 rfl (by kernel_rfl))
  exact (rterm_r hs hl hi).pre ((Picks.sub (a := [Rb q p c h s x, Gr 3 67 h.lA h.ln h.lc (les.flatMap encLE)]) picks).trans (lend2 .gr))
theorem rknows_q (hs : Rm c h s) (i : Nat) : FnQ Tryz.prog 133 [pt p, iv i].toArray [Rb q p c h s x] (.bool (decide (s.snap ≤ i ∧ i ≤ s.log.length))) := by
  refine (Fn.quietD (M := [Rb false p c h s x]) ?_ pers1).pre lend1
  have hE : FnQ Tryz.prog 70 [pt p].toArray [Rb false p c h s x] (nv s.log.length) := rend_q hs
  refine Fn.enter Tryz.func133 rfl (by kernel_rfl) rfl ?_
  by_cases h0 : s.snap ≤ i
  · by_cases h1 : i ≤ s.log.length
    · rw [decide_eq_true ⟨h0, h1⟩]
      refine run ?_
      refine .callQ hE ?_
      refine run ?_
      exact .retD Tryz.func133
    · rw [decide_eq_false (fun hc => h1 hc.2)]
      refine run ?_
      refine .callQ hE ?_
      refine run ?_
      exact .retD Tryz.func133
  · rw [decide_eq_false (fun hc => h0 hc.1)]
    refine run ?_
    exact .retD Tryz.func133
theorem rgood_q (hs : Rm c h s) : FnQ Tryz.prog 151 [pt p, .agg (encM m A cp).toArray].toArray [RLgN h s, Rb q p c h s x] (.bool (Rs.good m s)) := by
  refine FnQ.rlg (fun les hl => ?_) (.of Tryz.func151 rfl (by kernel_rfl))
  refine FnQ.pre (Fn.quietD (M := [Rb false p c h s x, Rd false h.lA (les.flatMap encLE)]) ?_ pers2) ((Picks.sub (a := [Rb q p c h s x, Gr 3 67 h.lA h.ln h.lc (les.flatMap encLE)]) picks).trans (lend2 .gr))
  have hg : Rs.good m s = (decide (s.tm s.log.length < m.lt) || (m.lt == s.tm s.log.length && decide (s.log.length ≤ m.idx))) := rfl
  have hf := hs.sn.fin
  have hE : FnQ Tryz.prog 70 [pt p].toArray [Rb false p c h s x] (nv s.log.length) := rend_q hs
  refine Fn.enter Tryz.func151 rfl (by kernel_rfl) rfl ?_
  refine run ?_
  refine .box fun z => ?_
  refine run ?_
  refine .callQ hE ?_
  refine .callQ (rterm_r hs hl (i := s.log.length) (by omega)) ?_
  by_cases h0 : s.tm s.log.length < m.lt
  · refine run ?_
    refine W.plan [13] mixed (by rfl) (by kernel_rfl) ?_
    refine run ?_
    refine W.hit 4 rfl (by rw [hg]; simp [h0] : _ = .bool (Rs.good m s)) ?_
    exact .retD Tryz.func151
  · by_cases h1 : m.lt = s.tm s.log.length
    · refine run ?_
      refine W.plan [13] mixed (by rfl) (by kernel_rfl) ?_
      refine run ?_
      refine .callQ hE ?_
      refine run ?_
      refine W.hit 4 rfl (by rw [hg]; simp [h1] : _ = .bool (Rs.good m s)) ?_
      exact .retD Tryz.func151
    · refine run ?_
      refine W.plan [13] mixed (by rfl) (by kernel_rfl) ?_
      refine run ?_
      refine W.hit 4 rfl (by rw [hg]; simp [h0, h1] : _ = .bool (Rs.good m s)) ?_
      exact .retD Tryz.func151
def rsaid (s : Nd) (m : Rf.Msg) : Rf.Msg := { m with src := s.id, term := if m.term = 0 then s.term else m.term }
theorem rsay_ok (hb : x.mn ≤ 1000000) : Fn Tryz.prog 134 [pt p, .agg (encM m A cp).toArray].toArray [Rb true p c h s x, RMs h.mA x.mn h.mc ms, RLg A m.es.length cp m.idx m.es]
    (fun v M => v = .tuple #[] ∧ ∃ A' c', M = [Rb true p c { h with mA := A', mc := c' } s { x with mn := x.mn + 1 }, RMs A' (x.mn + 1) c' (ms ++ [rsaid s m])]) := by
  refine Fn.enter Tryz.func134 rfl (by kernel_rfl) rfl ?_
  refine .ent ((Picks.ent (a := [RMs h.mA x.mn h.mc ms]) picks)) ?_
  refine .rms fun ys hys => ?_
  refine run ?_
  refine .box fun z => ?_
  by_cases h0 : m.term = 0
  · have hsn : rsaid s m = { m with src := s.id, term := s.term } := by unfold rsaid; rw [if_pos h0]
    rw [hsn]
    refine run ?_
    refine W.plan [] mixed (by rfl) (by kernel_rfl) ?_
    refine run ?_
    refine .lit fun z2 => ?_
    refine run ?_
    refine .push (sz := 10) (m := 1) (Src.pick rfl rfl .hd .own rfl rfl rfl) fun A3 c3 => ?_
    refine run ?_
    refine .ent ((Picks.sub (a := [REs ys, RLg A m.es.length cp m.idx m.es, Gr 10 59 A3 (x.mn + 1) c3 ((ys ++ [(⟨{ m with src := s.id, term := s.term }, A, cp⟩ : LM)]).flatMap encL), Rb true p c { h with mA := A3, mc := c3 } s { x with mn := x.mn + 1 }]) (by
      rw [flatsnoc]; exact picks)).trans ((REs.snoc (y := ⟨{ m with src := s.id, term := s.term }, A, cp⟩)).trans ((Ent.perm (.swap _ _ _)).trans (RMs.close (by rw [List.map_append, hys]; try rfl))))) ?_
    exact .doneE Tryz.func134 ⟨rfl, A3, c3, rfl⟩
  · have hsn : rsaid s m = { m with src := s.id, term := m.term } := by unfold rsaid; rw [if_neg h0]
    rw [hsn]
    refine run ?_
    refine W.plan [] mixed (by rfl) (by kernel_rfl) ?_
    refine run ?_
    refine .lit fun z2 => ?_
    refine run ?_
    refine .push (sz := 10) (m := 1) (Src.pick rfl rfl .hd .own rfl rfl rfl) fun A3 c3 => ?_
    refine run ?_
    refine .ent ((Picks.sub (a := [REs ys, RLg A m.es.length cp m.idx m.es, Gr 10 59 A3 (x.mn + 1) c3 ((ys ++ [(⟨{ m with src := s.id, term := m.term }, A, cp⟩ : LM)]).flatMap encL), Rb true p c { h with mA := A3, mc := c3 } s { x with mn := x.mn + 1 }]) (by
      rw [flatsnoc]; exact picks)).trans ((REs.snoc (y := ⟨{ m with src := s.id, term := m.term }, A, cp⟩)).trans ((Ent.perm (.swap _ _ _)).trans (RMs.close (by rw [List.map_append, hys]; try rfl))))) ?_
    exact .doneE Tryz.func134 ⟨rfl, A3, c3, rfl⟩
theorem rsay_n (hm : ms.length ≤ 500) (h7 : m.kind ≠ 7) : Fn Tryz.prog 134 [pt p, .agg (encM m A cp).toArray].toArray [RNS p c l0 fl s ms, RLg A m.es.length cp m.idx m.es]
    (Det (.tuple #[]) [RNS p c l0 fl s (ms ++ [rsaid s m])]) := by
  refine .rn (.of Tryz.func134 rfl (by kernel_rfl)) fun h hh => ?_
  refine ((rsay_ok (p := p) (c := c) (h := h) (s := s) (x := rxS ms.length (snL ms).length (fr l0 s.log) fl) (m := m) (A := A) (cp := cp) (ms := ms) (by show ms.length ≤ _; omega)).frame picks).mono ?_
  rintro v L ⟨_, ⟨rfl, A', c', rfl⟩, rfl⟩
  have e : snL (ms ++ [rsaid s m]) = snL ms := by rw [snL_snoc]; exact if_neg h7
  rw [RNS.eq (s := s) (n := ms.length + 1) (sn := (snL ms).length) (f := fr l0 s.log) (by simp) (by rw [e]) rfl]
  refine ⟨_, ?_, rfl, rfl⟩
  exact (RN.shut { h with mA := A', mc := c' } s hh (x := rxS (ms.length + 1) (snL ms).length (fr l0 s.log) fl) (ms := ms ++ [rsaid s m]) (by rw [SnpG, e]; exact picks)).trans (Picks.sub picks)
theorem rother_x {X : HP} {i y : Nat} (hn : c.n ≤ 5) (hX0 : Reads X h.oA ((oth c s).flatMap (peerE s))) (hX : (oth c s)[i]? = some y) : FnQ Tryz.prog 119 [pt p, nv y].toArray [Rb q p c h s x, X] (nv i) := by
  refine (Fn.quietD (M := [Rb false p c h s x, Rd false h.oA ((oth c s).flatMap (peerE s))]) ?_ pers2).pre (lend2 hX0)
  have hR : Reads (Rd false h.oA ((oth c s).flatMap (peerE s))) h.oA ((oth c s).flatMap (peerE s)) := .rd
  have hil := (List.getElem?_eq_some_iff.1 hX).1
  refine Fn.enter Tryz.func119 rfl (by kernel_rfl) rfl ?_
  refine run ?_
  refine W.loopH (ι := Nat) (fun k => k ≤ i) (fun k => [(0, pt p), (1, nv y), (5, nv k)])
    (fun k => [Rb false p c h s x, Rd false h.oA ((oth c s).flatMap (peerE s))]) (fun k => i - k) 0 (Nat.zero_le _) subs (.refl _) ?_
  intro k hk ih
  obtain ⟨z, hz⟩ : ∃ z, (oth c s)[k]? = some z := ⟨_, List.getElem?_eq_getElem (by omega)⟩
  have hol := oth_le (List.mem_of_getElem? hz)
  have hln : i < (oth c s).length := hil
  have hl5 := oth_len (c := c) (s := s) hn
  refine W.fact (fun w h => IsA.of (k := k * 4) hR (by exact pick) (by rw [flat_len peerE_len]; omega) h) fun hA => ?_
  by_cases he : k = i
  · subst he
    have : z = y := by rw [hX] at hz; injection hz with hz; exact hz.symm
    subst this
    refine run ?_
    exact .retD Tryz.func119
  · have hzy : z ≠ y := fun hc => he (by
      subst hc
      exact (List.getElem?_inj (by omega) oth_nodup).1 (hz.trans hX.symm))
    refine run ?_
    exact .back (ih (k + 1) (by omega) (by omega))
theorem rother_q {i y : Nat} (hn : c.n ≤ 5) (hX : (oth c s)[i]? = some y) : FnQ Tryz.prog 119 [pt p, nv y].toArray [Rb q p c h s x, OthG c h s] (nv i) := rother_x hn .gr hX
theorem rother_no {v : Int} (hn : c.n ≤ 5) (hX : ∀ y ∈ oth c s, (y : Int) ≠ v) : FnQ Tryz.prog 119 [pt p, iv v].toArray [Rb q p c h s x, OthG c h s] (iv (-1)) := by
  refine (Fn.quietD (M := [Rb false p c h s x, Rd false h.oA ((oth c s).flatMap (peerE s))]) ?_ pers2).pre (lend2 .gr)
  have hR : Reads (Rd false h.oA ((oth c s).flatMap (peerE s))) h.oA ((oth c s).flatMap (peerE s)) := .rd
  have hl5 := oth_len (c := c) (s := s) hn
  refine Fn.enter Tryz.func119 rfl (by kernel_rfl) rfl ?_
  refine run ?_
  refine W.loopH (ι := Nat) (fun k => k ≤ (oth c s).length) (fun k => [(0, pt p), (1, iv v), (5, nv k)])
    (fun k => [Rb false p c h s x, Rd false h.oA ((oth c s).flatMap (peerE s))]) (fun k => (oth c s).length - k) 0 (Nat.zero_le _) subs (.refl _) ?_
  intro k hk ih
  by_cases hlt : k < (oth c s).length
  · obtain ⟨z, hz⟩ : ∃ z, (oth c s)[k]? = some z := ⟨_, List.getElem?_eq_getElem hlt⟩
    have hzv := hX z (List.mem_of_getElem? hz)
    refine W.fact (fun w h => IsA.of (k := k * 4) hR (by exact pick) (by rw [flat_len peerE_len]; omega) h) fun hA => ?_
    refine run ?_
    exact .back (ih (k + 1) (by omega) (by omega))
  · refine run ?_
    exact .retD Tryz.func119
theorem upN_id {s : Nd} {new : List Rf.Ent} : oth c (upN s new) = oth c s := rfl
theorem rjoin_n {d : List Int} {dA : Option Addr} {dc : Nat} {D : HP} (hs : Sn c s) (hD : Reads D dA (d.map bc)) (hl : s.log.length - s.snap + 1 ≤ 65536) (hl2 : s.log.length + 1 ≤ 1099511627776) (hfr : fj (fr l0 s.log) s.log.length [⟨s.term, d⟩] = fr l0 (s.log ++ [⟨s.term, d⟩])) :
    Fn Tryz.prog 131 [pt p, .slice dA d.length dc].toArray [RNS p c l0 fl s ms, D] (Det (.tuple #[]) [RNS p c l0 fl (upN s [⟨s.term, d⟩]) ms]) := by
  have hf := hs.fin
  refine Fn.enter Tryz.func131 rfl (by kernel_rfl) rfl ?_
  refine .rn fun h hh => ?_
  have hln := hh.1
  have hE : ∀ x : RX, FnQ Tryz.prog 70 [pt p].toArray [Rb true p c h s x] (nv s.log.length) := fun x => rend_q (hh.rm hs)
  refine run ?_
  refine .callQ (hE _) ?_
  refine run ?_
  refine .callD (changed_ok (c := c) (h := h) (s := s) (x := rxS ms.length (snL ms).length (fr l0 s.log) fl) (p := p) (i := s.log.length + 1)) ?_
  refine run ?_
  refine .first (RLgN h s) ?_
  refine .rlg fun les hles => ?_
  have hlen := les_len hles
  rw [List.length_drop] at hlen
  refine W.plan [6] mixed (by rfl) (by kernel_rfl) ?_
  refine run ?_
  refine .callQ (hE _) ?_
  refine run ?_
  refine .lit fun z2 => ?_
  refine run ?_
  refine .push (sz := 3) (m := 1) (Src.pick rfl rfl .hd .own rfl rfl rfl) fun A3 c3 => ?_
  refine run ?_
  refine .ent ((Picks.ent (a := [Gr 3 67 A3 (h.ln + 1) c3 ((les ++ [(⟨⟨(s.log.length : Int) + 1, s.term, d⟩, dA, dc⟩ : LE)]).flatMap encLE), Ds les, D]) (by rw [List.flatMap_append, List.flatMap_singleton]; exact picks)).trans ((Ent.cons _ (Ds.snoc (x := ⟨⟨(s.log.length : Int) + 1, s.term, d⟩, dA, dc⟩) hD)).trans (RLg.close (i := s.snap) (l := (s.log ++ [(⟨s.term, d⟩ : Rf.Ent)]).drop s.snap) (by
    rw [List.map_append, hles, List.drop_append_of_le_length (by omega), ents_app, List.length_drop, show s.snap + (s.log.length - s.snap) = s.log.length by omega]; rfl)))) ?_
  have hh2 : RwOk (upN s [⟨s.term, d⟩]) { h with lA := A3, lc := c3, ln := h.ln + 1 } := by
    refine ⟨?_, hh.2.trans (tm_app (Sm.mk' hs)).symm⟩
    show h.ln + 1 = (s.log ++ [_]).length - s.snap; rw [List.length_append, List.length_singleton]; omega
  rw [RNS.eq (s := upN s [⟨s.term, d⟩]) (n := ms.length) (sn := (snL ms).length) (f := fj (fr l0 s.log) s.log.length [⟨s.term, d⟩]) rfl rfl hfr.symm]
  refine .rshut { h with lA := A3, lc := c3, ln := h.ln + 1 } (upN s [⟨s.term, d⟩]) (rxS ms.length (snL ms).length (fj (fr l0 s.log) s.log.length [⟨s.term, d⟩]) fl) hh2 ?_
  exact .doneD Tryz.func131
end
end Go.SL
namespace Go.SL
open Go.Proofs Go.Proofs.YtocogcgnahbpkaaGreat
open Rs (Nd)
set_option maxRecDepth 10000
attribute [local irreducible] W RS RG RD Fn FnQ OpS QOp Own Sat Rd Gr Mp Rg Lg Ms Es Nod Rp NodI RLg RMs REs RN
section
variable {c : Cfg} {h : RW} {s : Nd} {x : RX} {p : Nat} {q : Bool} {d : Int} {ms : List Rf.Msg} {m : Rf.Msg} {A : Option Addr} {cp : Nat} {l0 : List Rf.Ent} {fl : Nat × Nat}
theorem rsend_n {i y : Nat} (hs : Sn c s) (hm : ms.length ≤ 500) (hy : (oth c s)[i]? = some y) (hnx : 1 ≤ s.nx y ∧ s.nx y ≤ s.log.length + 1) (hsl : (snL ms).length ≤ 1000) : Fn Tryz.prog 135 [pt p, nv i].toArray [RNS p c l0 fl s ms] (Det (.tuple #[]) [RNS p c l0 fl s (ms ++ [Rs.app c s y])]) := by
  have hf := hs.fin
  have hcf := hs.cf
  have hn := hs.n
  have hyl := oth_le (List.mem_of_getElem? hy)
  have hil := (List.getElem?_eq_some_iff.1 hy).1
  have hol := oth_len (c := c) (s := s) hn.2
  refine Fn.enter Tryz.func135 rfl (by kernel_rfl) rfl ?_
  refine .rn fun h hh => ?_
  have hln := hh.1
  refine W.fact (fun w h' => IsA.of (k := i * 4) (Reads.gr (sz := 4) (E := 136) (A := h.oA) (cs := (oth c s).flatMap (peerE s))) (by exact pick) (by rw [flat_len peerE_len]; omega) h') fun hA => ?_
  refine run ?_
  refine .quiet rfl rfl rfl (R.loadE (enc := peerE s) (xs := oth c s) (el := y) rfl rfl rfl rfl (Reads.gr (sz := 4) (E := 136)) pick (fun _ => rfl) rfl hy) ?_
  refine .new fun z4 => ?_
  refine run ?_
  by_cases h0 : s.nx y ≤ s.snap
  · refine W.plan [] mixed (by rfl) (by kernel_rfl) ?_
    refine run ?_
    refine W.plan [] mixed (by rfl) (by kernel_rfl) ?_
    refine run ?_
    have e : rsaid s { kind := 7, src := 0, dst := y, term := 0, idx := s.snap, lt := s.tm s.snap, commit := s.commit } = Rs.app c s y := by unfold rsaid Rs.app; rw [if_pos h0]; rfl
    refine .ent (Ent.mk (X := RLg none 0 0 s.snap []) fun r => RLg.nil) ?_
    refine .callE (rsay_ok (c := c) (h := h) (x := rxS ms.length (snL ms).length (fr l0 s.log) fl) (ms := ms) (s := s) (m := { kind := 7, src := 0, dst := y, term := 0, idx := s.snap, lt := s.tm s.snap, commit := s.commit }) (A := none) (cp := 0) (by show ms.length ≤ _; omega)) ?_ (hv := by rw [← hh.2]; exact rfl)
    rintro v M ⟨rfl, A', c', rfl⟩
    rw [e]
    refine run ?_
    refine W.plan [] mixed (by rfl) (by kernel_rfl) ?_
    refine run ?_
    refine .lit fun z5 => ?_
    refine run ?_
    refine .push (sz := 1) (nn := (snL ms).length) (m := 1) (Src.pick rfl rfl .hd .own rfl rfl rfl) fun A3 c3 => ?_
    refine run ?_
    have e2 : snL (ms ++ [Rs.app c s y]) = snL ms ++ [y] := by rw [snL_snoc, ← e]; exact if_pos rfl
    rw [RNS.eq (s := s) (n := ms.length + 1) (sn := (snL ms).length + 1) (f := fr l0 s.log) (by simp) (by rw [e2]; simp) rfl]
    refine .rshut (ms := ms ++ [Rs.app c s y]) (c := c) (p := p) { h with mA := A', mc := c', sA := A3, sc := c3 } s (rxS (ms.length + 1) ((snL ms).length + 1) (fr l0 s.log) fl) hh ?_ (by
      rw [SnpG, e2, show li (snL ms ++ [y]) = li (snL ms) ++ [(y : Int)] by unfold li; rw [List.map_append]; rfl, List.map_append]; exact picks)
    exact .retD Tryz.func135
  · refine W.plan [] mixed (by rfl) (by kernel_rfl) ?_
    refine run ?_
    refine .first (RLgN h s) ?_
    refine .rlg fun les hles => ?_
    have hlen := les_len hles
    rw [List.length_drop] at hlen
    refine W.plan [9] mixed (by rfl) (by kernel_rfl) ?_
    refine run ?_
    refine RG.hit 53 rfl (by congr 1; omega : _ = nv (s.nx y - 1)) ?_
    refine RG.hit 57 rfl (by congr 1; omega : _ = nv (s.nx y - 1)) ?_
    refine .callQ (FnQ.pre (rterm_r (x := rxS ms.length (snL ms).length (fr l0 s.log) fl) (p := p) (hh.rm hs) hles (i := s.nx y - 1) (by omega)) (lend2 (q := true) (X := Gr 3 67 h.lA h.ln h.lc (les.flatMap encLE)) .gr)) ?_
    refine run ?_
    refine .new fun z5 => ?_
    refine run ?_
    generalize hj0 : s.nx y - 1 - s.snap = j0
    refine .ent (Ent.mk (X := Gr 3 67 none 0 0 []) fun r => .nil) ?_
    refine W.loopH (ι := Nat × Option Addr × Nat) (fun i => i.1 ≤ c.batch ∧ s.nx y + i.1 ≤ s.log.length + 1) (fun i => [(0, pt p), (5, pt z5), (6, nv (s.nx y + i.1))])
      (fun i => [Gr 3 67 i.2.1 i.1 i.2.2 (((les.drop j0).take i.1).flatMap encLE), Blk true z5 [nv 5, nv 0, nv y, nv 0, nv (s.nx y - 1), nv (s.tm (s.nx y - 1)), nv s.commit, .slice i.2.1 i.1 i.2.2, .bool false, nv 0] 59, Rb true p c h s (rxS ms.length (snL ms).length (fr l0 s.log) fl), Gr 3 67 h.lA h.ln h.lc (les.flatMap encLE), Ds les, OthG c h s, GraG h s, RefG h s, RMs h.mA ms.length h.mc ms, SnpG h (rxS ms.length (snL ms).length (fr l0 s.log) fl) ms])
      (fun i => s.log.length + 1 - i.1) (0, none, 0) ⟨by omega, by omega⟩ subs (Picks.sub picks) ?_
    rintro ⟨k, A1, c1⟩ ⟨hk, hk2⟩ ih
    dsimp only at hk hk2 ih ⊢
    have hE : FnQ Tryz.prog 70 [pt p].toArray [Rb true p c h s (rxS ms.length (snL ms).length (fr l0 s.log) fl)] (nv s.log.length) := rend_q (hh.rm hs)
    have fin : k = c.batch ∨ s.nx y + k = s.log.length + 1 → (les.drop j0).take k = (les.drop j0).take c.batch := fun hc => by
      rcases hc with rfl | hc
      · rfl
      · rw [List.take_of_length_le (by rw [List.length_drop]; omega), List.take_of_length_le (by rw [List.length_drop]; omega)]
    by_cases hlt : k < c.batch ∧ s.nx y + k ≤ s.log.length
    · obtain ⟨hlt, hlt2⟩ := hlt
      obtain ⟨el, hel⟩ : ∃ el, les[j0 + k]? = some el := ⟨_, List.getElem?_eq_getElem (by omega)⟩
      refine W.fact (fun w h' => IsA.of (k := (j0 + k) * 3) (Reads.gr (sz := 3) (E := 67) (A := h.lA) (cs := les.flatMap encLE)) (by exact pick) (by rw [flat_len lenLE]; omega) h') fun hAl => ?_
      refine run ?_
      refine W.plan [2] mixed (by rfl) (by kernel_rfl) ?_
      refine run ?_
      refine .callQ hE ?_
      refine run ?_
      refine W.plan [] mixed (by rfl) (by kernel_rfl) ?_
      refine run ?_
      refine RG.hit 95 rfl (by congr 1; omega : _ = nv (j0 + k)) ?_
      refine run ?_
      refine RG.take rfl rfl rfl rfl (R.loadE (enc := encLE) (xs := les) (el := el) rfl rfl rfl rfl (Reads.gr (sz := 3) (E := 67)) pick (fun _ => rfl) rfl hel) ?_ rfl
      refine run ?_
      refine .lit fun z6 => ?_
      refine run ?_
      refine .push (sz := 3) (m := 1) (Src.pick (cs := encLE el) rfl rfl .hd .own rfl rfl rfl) fun A3 c3 => ?_
      refine run ?_
      have h2 := ih (k + 1, A3, c3) ⟨by dsimp only; omega, by dsimp only; omega⟩ (by dsimp only; omega)
      have htk : (les.drop j0).take (k + 1) = (les.drop j0).take k ++ [el] := by rw [List.take_add_one, List.getElem?_drop, hel]; rfl
      dsimp only at h2
      rw [htk, List.flatMap_append, List.flatMap_singleton] at h2
      exact .back h2
    · have hfin := fin (by omega)
      rw [hfin]
      have hkl : k = ((s.log.drop (s.nx y - 1)).take c.batch).length := by rw [List.length_take, List.length_drop]; omega
      have e : rsaid s { kind := 5, src := 0, dst := y, term := 0, idx := s.nx y - 1, lt := s.tm (s.nx y - 1), commit := s.commit, es := (s.log.drop (s.nx y - 1)).take c.batch } = Rs.app c s y := by unfold rsaid Rs.app; rw [if_neg h0]; rfl
      have hes : ((les.drop j0).take c.batch).map (·.e) = ents (s.nx y - 1) ((s.log.drop (s.nx y - 1)).take c.batch) := by
        have e1 : s.nx y - 1 = s.snap + j0 := by omega
        rw [e1, List.map_take, List.map_drop, hles, ents_drop, ents_take, List.drop_drop]
      refine run ?_
      refine W.plan [2] mixed (by rfl) (by kernel_rfl) ?_
      refine run ?_
      refine .callQ hE ?_
      by_cases hlt2 : s.nx y + k ≤ s.log.length
      all_goals
        refine run ?_
        refine .ent ((Picks.ent (a := [Ds les]) picks).trans (Ent.dup Ds.pers)) ?_
        refine .ent (Ent.of (Y := Ds ((les.drop j0).take c.batch)) fun r hr => Ds.sub hr fun z hz => List.mem_of_mem_drop (List.mem_of_mem_take hz)) ?_
        refine .ent ((Picks.ent (a := [Gr 3 67 A1 k c1 (((les.drop j0).take c.batch).flatMap encLE), Ds ((les.drop j0).take c.batch)]) picks).trans (RLg.close hes)) ?_
        refine .ent ((Picks.ent (a := [Gr 3 67 h.lA h.ln h.lc (les.flatMap encLE), Ds les]) picks).trans (RLg.close hles)) ?_
        rw [hkl]
        refine .callE (rsay_ok (c := c) (h := h) (x := rxS ms.length (snL ms).length (fr l0 s.log) fl) (ms := ms) (s := s) (m := { kind := 5, src := 0, dst := y, term := 0, idx := s.nx y - 1, lt := s.tm (s.nx y - 1), commit := s.commit, es := (s.log.drop (s.nx y - 1)).take c.batch }) (A := A1) (cp := c1) (by show ms.length ≤ _; omega)) ?_
        rintro v M ⟨rfl, A', c', rfl⟩
        rw [e]
        refine run ?_
        have e2 : snL (ms ++ [Rs.app c s y]) = snL ms := by rw [snL_snoc, ← e]; exact if_neg (by show (5 : Nat) ≠ 7; omega)
        rw [RNS.eq (s := s) (n := ms.length + 1) (sn := (snL ms).length) (f := fr l0 s.log) (by simp) (by rw [e2]) rfl]
        refine .rshut (ms := ms ++ [Rs.app c s y]) (c := c) (p := p) { h with mA := A', mc := c' } s (rxS (ms.length + 1) (snL ms).length (fr l0 s.log) fl) hh ?_ (by rw [SnpG, e2]; exact picks)
        exact .doneD Tryz.func135
theorem snL_le {ms : List Rf.Msg} : (snL ms).length ≤ ms.length := by unfold snL; rw [List.length_map]; exact List.length_filter_le ..
theorem rsendAll_n (hs : Sn c s) (hm : ms.length ≤ 400) (hl : LdN c s) : Fn Tryz.prog 118 [pt p].toArray [RNS p c l0 fl s ms] (Det (.tuple #[]) [RNS p c l0 fl s (ms ++ Rs.apps c s)]) := by
  have hn := hs.n
  have hol := oth_len (c := c) (s := s) hn.2
  refine Fn.enter Tryz.func118 rfl (by kernel_rfl) rfl ?_
  refine run ?_
  refine W.loopH (ι := Nat) (fun k => k ≤ (oth c s).length) (fun k => [(0, pt p), (2, nv k)])
    (fun k => [RNS p c l0 fl s (ms ++ ((oth c s).take k).map (Rs.app c s))]) (fun k => (oth c s).length - k) 0 (Nat.zero_le _) subs (by rw [List.take_zero, List.map_nil, List.append_nil]; exact .refl _) ?_
  intro k hk ih
  refine .rn fun h hh => ?_
  by_cases hlt : k < (oth c s).length
  · obtain ⟨y, hy⟩ : ∃ y, (oth c s)[k]? = some y := ⟨_, List.getElem?_eq_getElem hlt⟩
    have hml : (ms ++ ((oth c s).take k).map (Rs.app c s)).length ≤ 500 := by rw [List.length_append, List.length_map, List.length_take]; omega
    refine run ?_
    refine .rshut h s (rxS (ms ++ ((oth c s).take k).map (Rs.app c s)).length (snL (ms ++ ((oth c s).take k).map (Rs.app c s))).length (fr l0 s.log) fl) hh ?_
    refine .callD (rsend_n (c := c) (s := s) (p := p) (l0 := l0) (fl := fl) (ms := ms ++ ((oth c s).take k).map (Rs.app c s)) hs hml hy (hl y (List.mem_of_getElem? hy)) (Nat.le_trans snL_le (by omega))) ?_
    refine run ?_
    have e : ms ++ ((oth c s).take (k + 1)).map (Rs.app c s) = ms ++ ((oth c s).take k).map (Rs.app c s) ++ [Rs.app c s y] := by
      rw [List.take_add_one, hy, List.map_append, List.append_assoc]; rfl
    have h2 := ih (k + 1) hlt (by omega)
    rw [e] at h2
    exact .back h2
  · have hk : k = (oth c s).length := by omega
    subst hk
    rw [List.take_length]
    refine run ?_
    refine .rshut h s (rxS (ms ++ (oth c s).map (Rs.app c s)).length (snL (ms ++ (oth c s).map (Rs.app c s))).length (fr l0 s.log) fl) hh ?_
    exact .doneD Tryz.func118
end
end Go.SL
