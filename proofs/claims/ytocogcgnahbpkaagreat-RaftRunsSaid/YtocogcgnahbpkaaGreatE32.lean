/-
  A part of the proof of what E53 says at its head.
-/
import Derived.Test.YtocogcgnahbpkaaGreatE31
namespace Go.SL
open Go.Proofs Go.Proofs.YtocogcgnahbpkaaGreat
open Rs (Nd)
set_option maxRecDepth 10000
attribute [local irreducible] W RS RG RD Fn FnQ OpS QOp Own Sat Rd Gr Mp Rg Lg Ms Es Nod Rp NodI RLg RMs REs RN RLd RNF
section
variable {c : Cfg} {s : Nd} {p : Nat} {M N X D : HP} {e : EV} {err : Int}
theorem revent1 (hk : e.kind = 1) (h : Fn Tryz.prog 88 [pt p, iv e.draw].toArray [M] (Det (.tuple #[]) [N])) :
    Fn Tryz.prog 69 [pt p, .agg (encV e).toArray].toArray [M, X, D] (Det (iv 0) [N, X, D]) := by
  refine Fn.enter Tryz.func69 rfl (by kernel_rfl) rfl ?_
  refine run ?_
  refine .box fun z => ?_
  refine run ?_
  refine .callD h ?_
  refine run ?_
  exact .retD Tryz.func69
theorem revent2 (hk : e.kind = 2) (h : FnQ Tryz.prog 89 [pt p, .agg (encM e.m e.A e.c).toArray].toArray [M, X] (.bool true))
    (h2 : Fn Tryz.prog 90 [pt p, .agg (encM e.m e.A e.c).toArray, iv e.draw].toArray [M, X, D] (Det (.tuple #[]) [N, X, D])) :
    Fn Tryz.prog 69 [pt p, .agg (encV e).toArray].toArray [M, X, D] (Det (iv 0) [N, X, D]) := by
  refine Fn.enter Tryz.func69 rfl (by kernel_rfl) rfl ?_
  refine run ?_
  refine .box fun z => ?_
  refine run ?_
  refine .quiet rfl rfl rfl (Q.loadPart (vs := encM e.m e.A e.c) rfl rfl rfl rfl pick rfl rfl) ?_
  refine .callQ h ?_
  refine run ?_
  refine .quiet rfl rfl rfl (Q.loadPart (vs := encM e.m e.A e.c) rfl rfl rfl rfl pick rfl rfl) ?_
  refine run ?_
  refine .callD h2 ?_
  refine run ?_
  exact .retD Tryz.func69
theorem revent3 (hk : e.kind = 3) (h : Fn Tryz.prog 91 [pt p, .slice e.dA e.dn e.dc].toArray [M, X, D] (Det (iv err) [N, X, D])) :
    Fn Tryz.prog 69 [pt p, .agg (encV e).toArray].toArray [M, X, D] (Det (iv err) [N, X, D]) := by
  refine Fn.enter Tryz.func69 rfl (by kernel_rfl) rfl ?_
  refine run ?_
  refine .box fun z => ?_
  refine run ?_
  refine .callD h ?_
  refine run ?_
  exact .retD Tryz.func69
theorem revent4 (hk : e.kind = 4) (h : Fn Tryz.prog 92 [pt p, nv e.idx].toArray [M] (Det (iv err) [N])) :
    Fn Tryz.prog 69 [pt p, .agg (encV e).toArray].toArray [M, X, D] (Det (iv err) [N, X, D]) := by
  refine Fn.enter Tryz.func69 rfl (by kernel_rfl) rfl ?_
  refine run ?_
  refine .box fun z => ?_
  refine run ?_
  refine .callD h ?_
  refine run ?_
  exact .retD Tryz.func69
theorem revent5 (hk : e.kind = 5) (h : Fn Tryz.prog 93 [pt p, nv e.idx, nv e.term].toArray [M] (Det (iv err) [N])) :
    Fn Tryz.prog 69 [pt p, .agg (encV e).toArray].toArray [M, X, D] (Det (iv err) [N, X, D]) := by
  refine Fn.enter Tryz.func69 rfl (by kernel_rfl) rfl ?_
  refine run ?_
  refine .box fun z => ?_
  refine run ?_
  refine .callD h ?_
  refine run ?_
  exact .retD Tryz.func69
theorem revent67 (hk : e.kind = 6 ∨ e.kind = 7) (h : Fn Tryz.prog 94 [pt p, .agg (encV e).toArray].toArray [M] (Det (iv err) [N])) :
    Fn Tryz.prog 69 [pt p, .agg (encV e).toArray].toArray [M, X, D] (Det (iv err) [N, X, D]) := by
  rcases hk with hk | hk
  all_goals
    refine Fn.enter Tryz.func69 rfl (by kernel_rfl) rfl ?_
    refine run ?_
    refine .box fun z => ?_
    refine run ?_
    refine .callD h ?_
    refine run ?_
    exact .retD Tryz.func69
end
end Go.SL
namespace Go.SL
open Go.Proofs Go.Proofs.YtocogcgnahbpkaaGreat
open Rs (Nd)
set_option maxRecDepth 10000
abbrev OthR (c : Cfg) (h : RW) (s : Nd) : HP := Rd false h.oA ((oth c s).flatMap (peerE s))
abbrev GraR (h : RW) (s : Nd) : HP := Rd false h.gA ((li s.gr).map iv)
abbrev RefR (h : RW) (s : Nd) : HP := Rd false h.rA ((li s.rf).map iv)
abbrev RLdN (h : RW) (s : Nd) : HP := RLd h.lA s.snap (s.log.drop s.snap)
attribute [local irreducible] W RS RG RD Fn FnQ OpS QOp Own Sat Rd Gr Mp Rg Lg Ms Es Nod Rp NodI RLg RMs REs RN RLd RNF
section
variable {c : Cfg} {s : Nd} {p : Nat} {h : RW} {x : RX}
theorem allIv (l : List Int) : (l.map iv).all isOne = true := by simp [isOne]
theorem allPe (l : List Nat) : (l.flatMap (peerE s)).all isOne = true := by simp [peerE, isOne]
def ClonedR (c : Cfg) (h : RW) (s : Nd) : Fin := fun v L => ∃ lA lc oA oc gA gc rA rc, v = .agg (rcells c ⟨h.pA, h.pc, lA, lc, h.ln, h.tS, oA, oc, gA, gc, rA, rc, none, 0, none, 0⟩ s {}).toArray ∧
  L = [RLg lA h.ln lc s.snap (s.log.drop s.snap), Gr 4 136 oA (oth c s).length oc ((oth c s).flatMap (peerE s)), Gr 1 3 gA s.gr.length gc ((li s.gr).map iv), Gr 1 3 rA s.rf.length rc ((li s.rf).map iv), RLdN h s, OthR c h s, GraR h s, RefR h s]
theorem clone_n (hs : Sn c s) (hh : RwOk s h) (hg : s.gr.length ≤ 1000) (hrf : s.rf.length ≤ 1000) : Fn Tryz.prog 68 [.agg (rcells c h s x).toArray].toArray [RLdN h s, OthR c h s, GraR h s, RefR h s] (ClonedR c h s) := by
  have hf := hs.fin
  have hn := hs.n
  have hln := hh.1
  have hol := oth_len (c := c) (s := s) hn.2
  refine Fn.enter Tryz.func68 rfl (by kernel_rfl) rfl ?_
  refine .rld fun les hles => ?_
  have hlen := les_len hles
  rw [List.length_drop] at hlen
  refine run ?_
  refine .box fun z => ?_
  refine .new fun z2 => ?_
  refine run ?_
  refine .ent (Ent.mk (X := Gr 3 67 none 0 0 []) fun r => .nil) ?_
  refine .push (sz := 3) (nn := 0) (m := h.ln) (Src.pick rfl rfl (.tl (.tl .hd)) (Reads.rd (q := false) (cs := les.flatMap encLE)) (by rw [flat_len lenLE]; omega) rfl (allLE _)) fun A1 c1 => ?_
  simp only [Nat.zero_add, List.nil_append]
  refine run ?_
  refine .ent (Ent.mk (X := Gr 4 136 none 0 0 []) fun r => .nil) ?_
  refine .push (sz := 4) (nn := 0) (m := (oth c s).length) (Src.pick rfl rfl (.tl (.tl (.tl (.tl (.tl .hd))))) (Reads.rd (q := false) (cs := (oth c s).flatMap (peerE s))) (by rw [flat_len peerE_len]) rfl (allPe _)) fun A2 c2 => ?_
  simp only [Nat.zero_add, List.nil_append]
  refine run ?_
  refine .ent (Ent.mk (X := Gr 1 3 none 0 0 []) fun r => .nil) ?_
  refine .push (sz := 1) (nn := 0) (m := s.gr.length) (Src.pick rfl rfl (.tl (.tl (.tl (.tl (.tl (.tl (.tl .hd))))))) (Reads.rd (q := false) (cs := (li s.gr).map iv)) (by simp [li]) rfl (allIv _)) fun A3 c3 => ?_
  simp only [Nat.zero_add, List.nil_append]
  refine run ?_
  refine .ent (Ent.mk (X := Gr 1 3 none 0 0 []) fun r => .nil) ?_
  refine .push (sz := 1) (nn := 0) (m := s.rf.length) (Src.pick rfl rfl (.tl (.tl (.tl (.tl (.tl (.tl (.tl (.tl (.tl .hd))))))))) (Reads.rd (q := false) (cs := (li s.rf).map iv)) (by simp [li]) rfl (allIv _)) fun A4 c4 => ?_
  simp only [Nat.zero_add, List.nil_append]
  refine run ?_
  refine .ent ((Picks.ent (a := [Ds les]) picks).trans (Ent.dup Ds.pers)) ?_
  refine .ent ((Picks.ent (a := [Gr 3 67 A1 h.ln c1 (les.flatMap encLE), Ds les]) picks).trans (RLg.close hles)) ?_
  refine .ent ((Picks.ent (a := [Rd false h.lA (les.flatMap encLE), Ds les]) picks).trans (RLd.close hles)) ?_
  exact .retE Tryz.func68 ⟨A1, c1, A2, c2, A3, c3, A4, c4, rfl, rfl⟩ (.r1 .agg)
end
end Go.SL
namespace Go.SL
open Go.Proofs Go.Proofs.YtocogcgnahbpkaaGreat
open Rs (Nd)
set_option maxRecDepth 10000
attribute [local irreducible] W RS RG RD Fn FnQ OpS QOp Own Sat Rd Gr Mp Rg Lg Ms Es Nod Rp NodI RLg RMs REs RN RLd RNF
section
variable {c : Cfg} {s s' : Nd} {p : Nat} {h : RW} {x : RX} {X D : HP} {e : EV} {frm : Nat} {fl : Nat × Nat} {o : List Rf.Msg}
def RStepped (c : Cfg) (s s' : Nd) (frm : Nat) (fl : Nat × Nat) (o : List Rf.Msg) (X D : HP) : Fin := fun v L => ∃ h' : RW, RwOk s' h' ∧ ∃ EA ec, v = .tuple #[.agg (rcells c h' s' ⟨o.length, (snL o).length, frm, fl.1, fl.2⟩).toArray, readyV s s' frm fl EA (rEnts s' frm).length ec h'.mA o.length h'.mc h'.sA (snL o).length h'.sc, iv 0] ∧
  L = [RLdN h' s', OthR c h' s', GraR h' s', RefR h' s', Lg EA (rEnts s' frm).length ec (rFrom s' frm - 1) (rEnts s' frm), RMs h'.mA o.length h'.mc o, Rd false h'.sA ((li (snL o)).map iv), X, D]
theorem rstep_n (hs : Sn c s) (hs' : Sn c s') (hh : RwOk s h) (hg : s.gr.length ≤ 1000) (hrf : s.rf.length ≤ 1000) (hfrm : frm = 0 ∨ (s'.snap < frm ∧ frm ≤ s'.log.length + 1))
    (hH : ∀ p, Fn Tryz.prog 69 [pt p, .agg (encV e).toArray].toArray [RNS p c s.log (0, 0) s [], X, D] (Det (iv 0) [RNF p c s' ⟨o.length, (snL o).length, frm, fl.1, fl.2⟩ o, X, D])) :
    Fn Tryz.prog 51 [.agg (rcells c h s x).toArray, .agg (encV e).toArray].toArray [RLdN h s, OthR c h s, GraR h s, RefR h s, X, D] (RStepped c s s' frm fl o X D) := by
  have hf' := hs'.fin
  refine Fn.enter Tryz.func51 rfl (by kernel_rfl) rfl ?_
  refine run ?_
  refine .box fun z => ?_
  refine .box fun z3 => ?_
  refine .new fun z4 => ?_
  refine .new fun z5 => ?_
  refine run ?_
  refine .callE (clone_n (x := x) hs hh hg hrf) ?_
  rintro v L ⟨lA, lc, oA, oc, gA, gc, rA, rc, rfl, rfl⟩
  refine run ?_
  refine .new fun z7 => ?_
  refine run ?_
  refine .ent (Ent.mk (X := RMs none 0 0 []) fun r => RMs.nil) ?_
  refine .ent (Ent.mk (X := Gr 1 3 none 0 0 []) fun r => Gr.nil) ?_
  refine .rshut (x := ⟨0, 0, 0, 0, 0⟩) (c := c) (p := z7) (ms := []) ⟨h.pA, h.pc, lA, lc, h.ln, h.tS, oA, oc, gA, gc, rA, rc, none, 0, none, 0⟩ s ⟨hh.1, hh.2⟩ ?_
  rw [show RN z7 c s ⟨0, 0, 0, 0, 0⟩ [] = RNS z7 c s.log (0, 0) s [] by rw [RNS, fr_self]; rfl]
  refine .callD (hH z7) ?_
  refine run ?_
  refine .first (RNF z7 c s' ⟨o.length, (snL o).length, frm, fl.1, fl.2⟩ o) ?_
  refine .rnf fun h' ⟨hh', hcap⟩ => ?_
  have hln := hh'.1
  have hx3 : (⟨o.length, (snL o).length, frm, fl.1, fl.2⟩ : RX).from_ = frm := rfl
  have hE : FnQ Tryz.prog 70 [pt z7].toArray [Rb true z7 c h' s' ⟨o.length, (snL o).length, frm, fl.1, fl.2⟩] (nv s'.log.length) := rend_q (hh'.rm hs')
  by_cases hfr : frm = 0
  · have e1 : rEnts s' frm = [] := if_pos hfr
    have e2 : rFrom s' frm = s'.log.length + 1 := if_pos hfr
    refine W.plan [5] mixed (by rfl) (by kernel_rfl) ?_
    refine run ?_
    refine .callQ hE ?_
    refine run ?_
    refine .new fun z9 => ?_
    by_cases hw : s'.term = s.term
    · by_cases hv : s'.vote = s.vote
      · refine run ?_
        have eW : rWrite s s' frm = false := by unfold rWrite; first | rw [decide_eq_true (by omega)] | rw [decide_eq_false (by omega)]
        refine .ent ((Picks.ent (a := [Blk true z9 [nv s'.term, nv s'.vote, .bool false, iv (s'.log.length + 1), .slice none 0 0, .slice h'.mA o.length h'.mc, nv s'.commit, .slice h'.sA (snL o).length h'.sc, nv s'.role, nv s'.leader, nv fl.1, nv fl.2] 80]) picks).trans
          (.of (Y := Blk true z9 [nv s'.term, nv s'.vote, .bool (rWrite s s' frm), nv (rFrom s' frm), .slice none (rEnts s' frm).length 0, .slice h'.mA o.length h'.mc, nv s'.commit, .slice h'.sA (snL o).length h'.sc, nv s'.role, nv s'.leader, nv fl.1, nv fl.2] 80) fun _ hq => by rw [eW, e1, e2]; exact hq)) ?_
        refine .ent (Ent.mk (X := Lg none (rEnts s' frm).length 0 (rFrom s' frm - 1) (rEnts s' frm)) fun r => by rw [e1]; exact Lg.nil) ?_
        refine W.planT [Blk true z9 [nv s'.term, nv s'.vote, .bool (rWrite s s' frm), nv (rFrom s' frm), .slice none (rEnts s' frm).length 0, .slice h'.mA o.length h'.mc, nv s'.commit, .slice h'.sA (snL o).length h'.sc, nv s'.role, nv s'.leader, nv fl.1, nv fl.2] 80] [2001] mixed (by rfl) (by kernel_rfl) ?_ picks
        refine run ?_
        refine .ent ((Picks.sub (a := [GraG h' s', RefG h' s', OthG c h' s', SnpG h' ⟨o.length, (snL o).length, frm, fl.1, fl.2⟩ o, RLdN h' s', RMs h'.mA o.length h'.mc o, Lg none (rEnts s' frm).length 0 (rFrom s' frm - 1) (rEnts s' frm), X, D, Blk true z4 (rcells c h' s' ⟨o.length, (snL o).length, frm, fl.1, fl.2⟩) 93, Blk true z5 [nv s'.term, nv s'.vote, .bool (rWrite s s' frm), nv (rFrom s' frm), .slice none (rEnts s' frm).length 0, .slice h'.mA o.length h'.mc, nv s'.commit, .slice h'.sA (snL o).length h'.sc, nv s'.role, nv s'.leader, nv fl.1, nv fl.2] 80]) picks).trans
          ((Ent.of Reads.gr).trans (.cons _ ((Ent.of Reads.gr).trans (.cons _ ((Ent.of Reads.gr).trans (.cons _ (.of Reads.gr))))))) ) ?_
        exact .retE Tryz.func51 ⟨h', hh', none, 0, rfl, rfl⟩ (.r3 .agg .agg (.tmp rfl))
      · refine run ?_
        have eW : rWrite s s' frm = true := by unfold rWrite; first | rw [decide_eq_true (by omega)] | rw [decide_eq_false (by omega)]
        refine .ent ((Picks.ent (a := [Blk true z9 [nv s'.term, nv s'.vote, .bool true, iv (s'.log.length + 1), .slice none 0 0, .slice h'.mA o.length h'.mc, nv s'.commit, .slice h'.sA (snL o).length h'.sc, nv s'.role, nv s'.leader, nv fl.1, nv fl.2] 80]) picks).trans
          (.of (Y := Blk true z9 [nv s'.term, nv s'.vote, .bool (rWrite s s' frm), nv (rFrom s' frm), .slice none (rEnts s' frm).length 0, .slice h'.mA o.length h'.mc, nv s'.commit, .slice h'.sA (snL o).length h'.sc, nv s'.role, nv s'.leader, nv fl.1, nv fl.2] 80) fun _ hq => by rw [eW, e1, e2]; exact hq)) ?_
        refine .ent (Ent.mk (X := Lg none (rEnts s' frm).length 0 (rFrom s' frm - 1) (rEnts s' frm)) fun r => by rw [e1]; exact Lg.nil) ?_
        refine W.planT [Blk true z9 [nv s'.term, nv s'.vote, .bool (rWrite s s' frm), nv (rFrom s' frm), .slice none (rEnts s' frm).length 0, .slice h'.mA o.length h'.mc, nv s'.commit, .slice h'.sA (snL o).length h'.sc, nv s'.role, nv s'.leader, nv fl.1, nv fl.2] 80] [2001] mixed (by rfl) (by kernel_rfl) ?_ picks
        refine run ?_
        refine .ent ((Picks.sub (a := [GraG h' s', RefG h' s', OthG c h' s', SnpG h' ⟨o.length, (snL o).length, frm, fl.1, fl.2⟩ o, RLdN h' s', RMs h'.mA o.length h'.mc o, Lg none (rEnts s' frm).length 0 (rFrom s' frm - 1) (rEnts s' frm), X, D, Blk true z4 (rcells c h' s' ⟨o.length, (snL o).length, frm, fl.1, fl.2⟩) 93, Blk true z5 [nv s'.term, nv s'.vote, .bool (rWrite s s' frm), nv (rFrom s' frm), .slice none (rEnts s' frm).length 0, .slice h'.mA o.length h'.mc, nv s'.commit, .slice h'.sA (snL o).length h'.sc, nv s'.role, nv s'.leader, nv fl.1, nv fl.2] 80]) picks).trans
          ((Ent.of Reads.gr).trans (.cons _ ((Ent.of Reads.gr).trans (.cons _ ((Ent.of Reads.gr).trans (.cons _ (.of Reads.gr))))))) ) ?_
        exact .retE Tryz.func51 ⟨h', hh', none, 0, rfl, rfl⟩ (.r3 .agg .agg (.tmp rfl))
    · refine run ?_
      have eW : rWrite s s' frm = true := by unfold rWrite; first | rw [decide_eq_true (by omega)] | rw [decide_eq_false (by omega)]
      refine .ent ((Picks.ent (a := [Blk true z9 [nv s'.term, nv s'.vote, .bool true, iv (s'.log.length + 1), .slice none 0 0, .slice h'.mA o.length h'.mc, nv s'.commit, .slice h'.sA (snL o).length h'.sc, nv s'.role, nv s'.leader, nv fl.1, nv fl.2] 80]) picks).trans
        (.of (Y := Blk true z9 [nv s'.term, nv s'.vote, .bool (rWrite s s' frm), nv (rFrom s' frm), .slice none (rEnts s' frm).length 0, .slice h'.mA o.length h'.mc, nv s'.commit, .slice h'.sA (snL o).length h'.sc, nv s'.role, nv s'.leader, nv fl.1, nv fl.2] 80) fun _ hq => by rw [eW, e1, e2]; exact hq)) ?_
      refine .ent (Ent.mk (X := Lg none (rEnts s' frm).length 0 (rFrom s' frm - 1) (rEnts s' frm)) fun r => by rw [e1]; exact Lg.nil) ?_
      refine W.planT [Blk true z9 [nv s'.term, nv s'.vote, .bool (rWrite s s' frm), nv (rFrom s' frm), .slice none (rEnts s' frm).length 0, .slice h'.mA o.length h'.mc, nv s'.commit, .slice h'.sA (snL o).length h'.sc, nv s'.role, nv s'.leader, nv fl.1, nv fl.2] 80] [2001] mixed (by rfl) (by kernel_rfl) ?_ picks
      refine run ?_
      refine .ent ((Picks.sub (a := [GraG h' s', RefG h' s', OthG c h' s', SnpG h' ⟨o.length, (snL o).length, frm, fl.1, fl.2⟩ o, RLdN h' s', RMs h'.mA o.length h'.mc o, Lg none (rEnts s' frm).length 0 (rFrom s' frm - 1) (rEnts s' frm), X, D, Blk true z4 (rcells c h' s' ⟨o.length, (snL o).length, frm, fl.1, fl.2⟩) 93, Blk true z5 [nv s'.term, nv s'.vote, .bool (rWrite s s' frm), nv (rFrom s' frm), .slice none (rEnts s' frm).length 0, .slice h'.mA o.length h'.mc, nv s'.commit, .slice h'.sA (snL o).length h'.sc, nv s'.role, nv s'.leader, nv fl.1, nv fl.2] 80]) picks).trans
        ((Ent.of Reads.gr).trans (.cons _ ((Ent.of Reads.gr).trans (.cons _ ((Ent.of Reads.gr).trans (.cons _ (.of Reads.gr))))))) ) ?_
      exact .retE Tryz.func51 ⟨h', hh', none, 0, rfl, rfl⟩ (.r3 .agg .agg (.tmp rfl))
  · have hfr2 := hfrm.resolve_left hfr
    have e1 : rEnts s' frm = s'.log.drop (frm - 1) := if_neg hfr
    have e2 : rFrom s' frm = frm := if_neg hfr
    have eW : rWrite s s' frm = true := by unfold rWrite; rw [decide_eq_true (by omega)]
    refine .first (RLdN h' s') ?_
    refine .rld fun les hles => ?_
    have hlen := les_len hles
    rw [List.length_drop] at hlen
    refine W.plan [5] mixed (by rfl) (by kernel_rfl) ?_
    refine run ?_
    refine .callQ hE ?_
    refine run ?_
    refine .new fun z9 => ?_
    refine run ?_
    refine .hit 54 rfl (by congr 1; omega : _ = nv (frm - s'.snap - 1)) ?_
    refine .quiet rfl rfl rfl (Q.sliceFrom (lo := frm - s'.snap - 1) rfl rfl rfl rfl rfl rfl (by omega)) ?_
    generalize hkk : frm - s'.snap - 1 = kk
    have hdl : (les.drop kk).length = h'.ln - kk := by rw [List.length_drop]; omega
    rw [← hdl]
    have hes : (les.drop kk).map (·.e) = ents (frm - 1) (s'.log.drop (frm - 1)) := by
      rw [List.map_drop, hles, ents_drop, List.drop_drop, show s'.snap + kk = frm - 1 by omega]
    have hdd : ∀ y ∈ les, y.e.data.length ≤ 140737488351232 := fun y hy => by
      obtain ⟨j, hj⟩ := List.mem_iff_getElem?.1 hy
      obtain ⟨en, h1, h2⟩ := les_at hles hj
      rw [h2]; exact hs'.data en (List.mem_of_mem_drop (List.mem_of_getElem? h1))
    refine .ent ((Picks.ent (a := [Rd false h'.lA (les.flatMap encLE)]) picks).trans ((Ent.dup Rd.pers).trans (Ent.of (Y := Rd false (if h'.lc = kk then h'.lA else adr h'.lA (kk * 3)) ((les.drop kk).flatMap encLE)) fun r hr => dropRd kk h'.lc hr (by omega)))) ?_
    refine .ent ((Picks.ent (a := [Ds les]) picks).trans ((Ent.dup Ds.pers).trans (Ent.of (Y := Ds (les.drop kk)) fun r hr => hr.drop kk))) ?_
    refine .callE (copyLog_ok (c := h'.lc - kk) (l := les.drop kk) (X := Rd false (if h'.lc = kk then h'.lA else adr h'.lA (kk * 3)) ((les.drop kk).flatMap encLE)) (D := Ds (les.drop kk)) .rd (fun _ h => h) (by omega) fun y hy => hdd y (List.mem_of_mem_drop hy)) ?_
    rintro v L ⟨l', A2, c2, rfl, h2, rfl⟩
    rw [hes] at h2
    have hl2 := les_len h2
    refine run ?_
    refine .ent ((Picks.ent (a := [Gr 3 67 A2 l'.length c2 (l'.flatMap encLE), Gs l']) picks).trans (Lg.close h2)) ?_
    refine .ent ((Picks.ent (a := [Rd false h'.lA (les.flatMap encLE), Ds les]) picks).trans (RLd.close hles)) ?_
    rw [hl2]
    refine run ?_
    refine .ent ((Picks.ent (a := [Blk true z9 [nv s'.term, nv s'.vote, .bool true, nv frm, .slice A2 (s'.log.drop (frm - 1)).length c2, .slice h'.mA o.length h'.mc, nv s'.commit, .slice h'.sA (snL o).length h'.sc, nv s'.role, nv s'.leader, nv fl.1, nv fl.2] 80]) picks).trans
      (.of (Y := Blk true z9 [nv s'.term, nv s'.vote, .bool (rWrite s s' frm), nv (rFrom s' frm), .slice A2 (rEnts s' frm).length c2, .slice h'.mA o.length h'.mc, nv s'.commit, .slice h'.sA (snL o).length h'.sc, nv s'.role, nv s'.leader, nv fl.1, nv fl.2] 80) fun _ hq => by rw [eW, e1, e2]; exact hq)) ?_
    refine .ent ((Picks.ent (a := [Lg A2 (s'.log.drop (frm - 1)).length c2 (frm - 1) (s'.log.drop (frm - 1))]) picks).trans (.of (Y := Lg A2 (rEnts s' frm).length c2 (rFrom s' frm - 1) (rEnts s' frm)) fun _ hq => by rw [e1, e2]; exact hq)) ?_
    refine W.planT [Blk true z9 [nv s'.term, nv s'.vote, .bool (rWrite s s' frm), nv (rFrom s' frm), .slice A2 (rEnts s' frm).length c2, .slice h'.mA o.length h'.mc, nv s'.commit, .slice h'.sA (snL o).length h'.sc, nv s'.role, nv s'.leader, nv fl.1, nv fl.2] 80] [2001] mixed (by rfl) (by kernel_rfl) ?_ picks
    refine run ?_
    refine .ent ((Picks.sub (a := [GraG h' s', RefG h' s', OthG c h' s', SnpG h' ⟨o.length, (snL o).length, frm, fl.1, fl.2⟩ o, RLdN h' s', RMs h'.mA o.length h'.mc o, Lg A2 (rEnts s' frm).length c2 (rFrom s' frm - 1) (rEnts s' frm), X, D, Blk true z4 (rcells c h' s' ⟨o.length, (snL o).length, frm, fl.1, fl.2⟩) 93, Blk true z5 [nv s'.term, nv s'.vote, .bool (rWrite s s' frm), nv (rFrom s' frm), .slice A2 (rEnts s' frm).length c2, .slice h'.mA o.length h'.mc, nv s'.commit, .slice h'.sA (snL o).length h'.sc, nv s'.role, nv s'.leader, nv fl.1, nv fl.2] 80]) picks).trans
      ((Ent.of Reads.gr).trans (.cons _ ((Ent.of Reads.gr).trans (.cons _ ((Ent.of Reads.gr).trans (.cons _ (.of Reads.gr))))))) ) ?_
    exact .retE Tryz.func51 ⟨h', hh', A2, c2, rfl, rfl⟩ (.r3 .agg .agg (.tmp rfl))
theorem rstep_e {err : Int} (hs : Sn c s) (hh : RwOk s h) (hg : s.gr.length ≤ 1000) (hrf : s.rf.length ≤ 1000) (he : err ≠ 0)
    (hH : ∀ p, Fn Tryz.prog 69 [pt p, .agg (encV e).toArray].toArray [RNS p c s.log (0, 0) s [], X, D] (Det (iv err) [RNS p c s.log (0, 0) s [], X, D])) :
    Fn Tryz.prog 51 [.agg (rcells c h s x).toArray, .agg (encV e).toArray].toArray [RLdN h s, OthR c h s, GraR h s, RefR h s, X, D]
      (Det (.tuple #[.agg (rcells c h s x).toArray, .agg #[iv 0, iv 0, .bool false, iv 0, .slice none 0 0, .slice none 0 0, iv 0, .slice none 0 0, iv 0, iv 0, iv 0, iv 0], iv err]) [RLdN h s, OthR c h s, GraR h s, RefR h s, X, D]) := by
  refine Fn.enter Tryz.func51 rfl (by kernel_rfl) rfl ?_
  refine run ?_
  refine .box fun z => ?_
  refine .box fun z3 => ?_
  refine .new fun z4 => ?_
  refine .new fun z5 => ?_
  refine run ?_
  refine .callE (clone_n (x := x) hs hh hg hrf) ?_
  rintro v L ⟨lA, lc, oA, oc, gA, gc, rA, rc, rfl, rfl⟩
  refine run ?_
  refine .new fun z7 => ?_
  refine run ?_
  refine .ent (Ent.mk (X := RMs none 0 0 []) fun r => RMs.nil) ?_
  refine .ent (Ent.mk (X := Gr 1 3 none 0 0 []) fun r => Gr.nil) ?_
  refine .rshut (x := ⟨0, 0, 0, 0, 0⟩) (c := c) (p := z7) (ms := []) ⟨h.pA, h.pc, lA, lc, h.ln, h.tS, oA, oc, gA, gc, rA, rc, none, 0, none, 0⟩ s ⟨hh.1, hh.2⟩ ?_
  rw [show RN z7 c s ⟨0, 0, 0, 0, 0⟩ [] = RNS z7 c s.log (0, 0) s [] by rw [RNS, fr_self]; rfl]
  refine .callD (hH z7) ?_
  refine run ?_
  exact .retE Tryz.func51 ⟨rfl, rfl⟩ (.r3 .agg .agg (.tmp rfl))
end
end Go.SL
namespace Go.SL
open Go.Proofs Go.Proofs.YtocogcgnahbpkaaGreat
open Rs (Nd)
set_option maxRecDepth 10000
attribute [local irreducible] W RS RG RD Fn FnQ OpS QOp Own Sat Rd Gr Mp Rg Lg Ms Es Nod Rp NodI RLg RMs REs RN RLd RNF
section
variable {c : Cfg} {s s' : Nd} {p : Nat} {h : RW} {x : RX} {X Y D : HP} {d : Int} {A : Option Addr} {cp : Nat}
theorem rconfig_t {id : Nat} {pA : Option Addr} {pc : Nat} (hc : CfgOk c) (hid : 1 ≤ id ∧ id ≤ c.n) (hX : Reads X pA (peersL c)) : FnQ Tryz.prog 83 [.agg (cfgV c id pA pc).toArray].toArray [X] (.bool true) := by
  refine (Fn.quietD (M := [Rd false pA (peersL c)]) ?_ pers3).pre (.of hX)
  obtain ⟨⟨n1, n2⟩, ⟨t1, t2, t3, t4⟩, b1, b2⟩ := hc
  have hR : Reads (Rd false pA (peersL c)) pA (peersL c) := Reads.rd
  refine Fn.enter Tryz.func83 rfl (by kernel_rfl) rfl ?_
  refine run ?_
  refine .box fun z => ?_
  refine run ?_
  refine W.loopH (ι := Nat) (fun k => k ≤ c.n) (fun k => [(1, pt z), (3, nv k)])
    (fun k => [Blk true z (cfgV c id pA pc) 27, Rd false pA (peersL c)]) (fun k => c.n - k) 0 (Nat.zero_le _) subs (.refl _) ?_
  intro k hk ih
  by_cases hlt : k < c.n
  · refine W.fact (fun w h => IsA.of (k := k) hR pick (by rw [peers_len]; exact hlt) h) fun hA => ?_
    refine run ?_
    refine W.plan [5] mixed (by rfl) (by kernel_rfl) ?_
    refine run ?_
    refine RG.take rfl rfl rfl rfl (R.load (v := nv (k + 1)) rfl rfl rfl rfl hR pick (by rw [Nat.mul_one]; exact peers_at hlt)) ?_ rfl
    refine .callQ (out_f (a := (k + 1 : Nat)) (lo := 1) (hi := 7) (by omega) (by omega)) ?_
    by_cases h0 : k = 0
    · refine run ?_
      exact .back (ih (k + 1) hlt (by omega))
    · refine run ?_
      refine RG.take rfl rfl rfl rfl (R.load (v := nv (k + 1)) rfl rfl rfl rfl hR pick (by rw [Nat.mul_one]; exact peers_at hlt)) ?_ rfl
      refine run ?_
      refine RG.hit 29 rfl (by congr 1; omega : _ = nv (k - 1)) ?_
      refine run ?_
      refine RG.take rfl rfl rfl rfl (R.load (v := nv k) rfl rfl rfl rfl hR pick (by rw [Nat.mul_one, peers_at (k := k - 1) (by omega), Nat.sub_add_cancel (by omega)])) ?_ rfl
      refine run ?_
      exact .back (ih (k + 1) hlt (by omega))
  · have hh := rhas_q (cp := pc) (v := id) (Reads.rd (q := false) (A := pA) (cs := peersL c)) (by simp; omega)
    rw [decide_eq_true (li_mem.2 (List.mem_range'_1.2 (by omega)))] at hh
    simp only [li, List.length_map, List.length_range'] at hh
    refine run ?_
    refine .callQ hh ?_
    refine run ?_
    refine .callQ (out_f (a := c.batch) (lo := 1) (hi := 16) (by omega) (by omega)) ?_
    refine run ?_
    exact .retD Tryz.func83
theorem rstate_t {pA : Option Addr} {pc id : Nat} {mes : List LE} (hn : 1 ≤ c.n ∧ c.n ≤ 5) (hs : StOk c s) (hX : Reads X pA (peersL c)) (hY : Reads Y A (mes.flatMap encLE)) (hmes : mes.map (·.e) = ents s.snap (s.log.drop s.snap)) (hl : s.log.length ≤ 1099511627776) :
    FnQ Tryz.prog 84 [.agg (cfgV c id pA pc).toArray, .agg (stV s A cp).toArray].toArray [X, Y] (.bool true) := by
  refine (Fn.quietD (M := [Rd false pA (peersL c), Rd false A (mes.flatMap encLE)]) ?_ (fun Q hQ => by
    rcases List.mem_cons.1 hQ with rfl | hQ
    · exact Rd.pers
    · rw [List.mem_singleton.1 hQ]; exact Rd.pers)).pre ((Ent.of hX).trans (.cons _ (.of hY)))
  obtain ⟨s1, s2, ⟨s3, s4⟩, ⟨s5, s6, s7⟩, s8⟩ := hs
  have hml := les_len hmes
  rw [List.length_drop] at hml
  have hR : Reads (Rd false A (mes.flatMap encLE)) A (mes.flatMap encLE) := Reads.rd
  have hV : 1 ≤ s.vote ∧ s.vote ≤ c.n → FnQ Tryz.prog 113 [.slice pA c.n pc, nv s.vote].toArray [Rd false pA (peersL c)] (.bool true) := fun hv => by
    have hh := rhas_q (cp := pc) (v := s.vote) (Reads.rd (q := false) (A := pA) (cs := peersL c)) (by simp; omega)
    rw [decide_eq_true (li_mem.2 (List.mem_range'_1.2 (by omega)))] at hh
    simpa only [li, List.length_map, List.length_range'] using hh
  clear hX hY
  refine Fn.enter Tryz.func84 rfl (by kernel_rfl) rfl ?_
  refine run ?_
  refine .box fun z => ?_
  refine .box fun z3 => ?_
  refine run ?_
  refine .callQ (out_f (a := s.term) (lo := 0) (hi := 1099511627776) (by omega) (by omega)) ?_
  have hgo : ∀ k (e : Rf.Ent), (s.log.drop s.snap)[k]? = some e → max (if k = 0 then s.tm s.snap else (((s.log.drop s.snap)[k - 1]?).map (·.term)).getD 0) 1 ≤ e.term ∧ e.term ≤ s.term := fun k e h => goes_at s8 h
  clear s8
  by_cases hv : s.vote = 0
  case' pos => refine run ?_
  case' neg =>
    obtain ⟨v1, v2, v3⟩ := s2.resolve_left hv
    refine run ?_
    refine .callQ (hV ⟨v2, v3⟩) ?_
    refine run ?_
  all_goals
    refine .callQ (out_f (a := s.snap) (lo := 0) (hi := 1099511627776) (by omega) (by omega)) ?_
    by_cases hz : s.snap = 0
    all_goals
      refine run ?_
      refine .quiet rfl rfl rfl (Q.neqB rfl rfl rfl Tryz.underlying4) ?_
      refine run ?_
      refine .callQ (out_f (a := s.tm s.snap) (lo := 0) (hi := s.term) (by omega) (by omega)) ?_
      refine run ?_
      refine .hit 5 rfl (by congr 1; omega : _ = nv (max (s.tm s.snap) 1)) ?_
      refine W.loopH (ι := Nat) (fun k => k ≤ s.log.length - s.snap) (fun k => [(3, pt z3), (5, nv (max (if k = 0 then s.tm s.snap else (((s.log.drop s.snap)[k - 1]?).map (·.term)).getD 0) 1)), (6, nv k)])
        (fun k => [Blk true z3 (stV s A cp) 90, Rd false pA (peersL c), Rd false A (mes.flatMap encLE)]) (fun k => s.log.length - s.snap - k) 0 (Nat.zero_le _) subs (Picks.sub picks) ?_
      rintro k hkl ih
      by_cases hlt : k < s.log.length - s.snap
      · obtain ⟨y, hy⟩ : ∃ y, mes[k]? = some y := ⟨_, List.getElem?_eq_getElem (by omega)⟩
        obtain ⟨en, hen, he2⟩ := les_at hmes hy
        have hga := hgo k en hen
        generalize hq : max (if k = 0 then s.tm s.snap else (((s.log.drop s.snap)[k - 1]?).map (·.term)).getD 0) 1 = q at hga
        obtain ⟨ye, yA, yc⟩ := y
        dsimp only at he2
        subst he2
        refine W.fact (fun w h => IsA.of (k := k * 3) hR (by exact pick) (by rw [flat_len lenLE]; omega) h) fun hA => ?_
        refine run ?_
        refine .new fun z6 => ?_
        refine RS.hit 74 rfl (rfl : _ = Value.agg [nv (s.snap + k + 1), nv en.term, .slice yA en.data.length yc].toArray) ?_
        refine run ?_
        refine .callQ (out_f (a := en.term) (lo := q) (hi := s.term) (by omega) (by omega)) ?_
        refine run ?_
        have e1 : max (if k + 1 = 0 then s.tm s.snap else (((s.log.drop s.snap)[k + 1 - 1]?).map (·.term)).getD 0) 1 = en.term := by rw [if_neg (by omega), Nat.add_sub_cancel, hen]; show max en.term 1 = _; omega
        have h2 := ih (k + 1) (by omega) (by omega)
        rw [e1] at h2
        exact .back h2
      · refine run ?_
        refine .callQ (out_f (a := s.commit) (lo := s.snap) (hi := (s.snap : Int) + (s.log.length - s.snap : Nat)) (by omega) (by omega)) ?_
        refine run ?_
        exact .retD Tryz.func84
theorem copyLog_n {l : List LE} (hl : l.length ≤ 1099511627776) (hd : ∀ x ∈ l, x.e.data.length ≤ 140737488351232) :
    FnN Tryz.prog 46 [.slice A l.length cp].toArray [Rd false A (l.flatMap encLE), Ds l] fun v M => ∃ l' : List LE, ∃ A' c', v = .slice A' l'.length c' ∧ l'.map (·.e) = l.map (·.e) ∧ M = [Gr 3 67 A' l'.length c' (l'.flatMap encLE), Gs l'] := by
  refine Fn.new ((copyLog_ok (X := Rd false A (l.flatMap encLE)) (D := Ds l) .rd (fun r h => h) hl hd).mono ?_) ?_
  · rintro v M ⟨l', A', c', rfl, h1, rfl⟩
    refine ⟨_, .refl _, [Gr 3 67 A' l'.length c' (l'.flatMap encLE), Gs l'], rfl, ⟨l', A', c', rfl, h1, rfl⟩, ?_⟩
    intro Q hQ
    rcases List.mem_cons.1 hQ with rfl | hQ
    · exact Gr.excl
    · rw [List.mem_singleton.1 hQ]; exact Gs.excl
  · rintro Q (_ | ⟨_, _ | ⟨_, h⟩⟩)
    · exact Rd.pers
    · exact Ds.pers
    · cases h
end
end Go.SL
