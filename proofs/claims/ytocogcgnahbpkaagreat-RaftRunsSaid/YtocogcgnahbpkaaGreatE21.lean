/-
  A part of the proof of what E53 says at its head.
-/
import Derived.Test.YtocogcgnahbpkaaGreatE20
namespace Go.SL
open Go.Proofs Go.Proofs.YtocogcgnahbpkaaGreat
open Rs (Nd)
set_option maxRecDepth 10000
def IdleOk (s : Nd) (h : HW) (_ : EX) : Prop := h.ln = s.log.length - s.snap ∧ h.tS = s.tm s.snap
def NodI (p : Nat) (c : Cfg) (s : Nd) : HP := fun r => ∃ h x, IdleOk s h x ∧ Stars [Nb true p c h s x, PeersG c h, LgN h s, Rp c h s] r
section
variable {P : Program} {n f : Nat} {e : Env} {L L' : List HP} {R : Fin} {k : List Item} {ds : List Deferred} {c : Cfg} {h : HW} {s : Nd} {bs p : Nat} {x : EX}
theorem W.nodI (H : ∀ h x, IdleOk s h x → W P f n R k e ds (Nb true p c h s x :: PeersG c h :: LgN h s :: Rp c h s :: L)) : W P f n R k e ds (NodI p c s :: L) :=
  .ex fun h => .ex fun x => .pur fun hh => .ent (Ent.star (l := [_, _, _, _])) (H h x hh)
theorem NodI.shut (h h0 : HW) (x : EX) (s s0 : Nd) (hh : IdleOk s h x) (hr : Rp c h s = Rp c h0 s0) (hp : Picks [Nb true p c h s x, PeersG c h, LgN h s, Rp c h0 s0] L L') : Ent L (NodI p c s :: L') :=
  hp.ent.trans (by rw [← hr]; exact (Ent.unstar (l := [_, _, _, _])).trans ((Ent.pur (X := Stars [Nb true p c h s x, PeersG c h, LgN h s, Rp c h s]) hh).trans ((Ent.exi (q := fun x => fun r => IdleOk s h x ∧ Stars [Nb true p c h s x, PeersG c h, LgN h s, Rp c h s] r) x).trans (Ent.exi (q := fun h => fun r => ∃ x, IdleOk s h x ∧ Stars [Nb true p c h s x, PeersG c h, LgN h s, Rp c h s] r) h))))
end
attribute [local irreducible] W RS RG RD Fn FnQ OpS QOp Own Sat Rd Gr Mp Rg Lg Ms Es Nod Rp NodI
section
variable {c : Cfg} {h : HW} {s : Nd} {x : EX} {p bs : Nat} {d : Int} {l0 : List Rf.Ent} {fl : Nat × Nat} {ms : List Rf.Msg} {m : Rf.Msg} {A : Option Addr} {cp : Nat}
theorem stepTab_at {k : Nat} (h : 1 ≤ k ∧ k ≤ 7) : stepTab[k]? = some (fnv (71 + k)) := by
  have h8 : k = 1 ∨ k = 2 ∨ k = 3 ∨ k = 4 ∨ k = 5 ∨ k = 6 ∨ k = 7 := by omega
  rcases h8 with h8 | h8 | h8 | h8 | h8 | h8 | h8 <;> (subst h8; rfl)
theorem MB0 {b : Nat} {L : List HP} : Ent (Mp Tryz.prog 3 nv uv b ([] : List (Nat × Unit)) :: L) (MB b [] :: L) := .refl _
def rFrom (s : Nd) (frm : Nat) : Nat := if frm = 0 then s.log.length + 1 else frm
def rEnts (s : Nd) (frm : Nat) : List Rf.Ent := if frm = 0 then [] else s.log.drop (frm - 1)
def rWrite (s s' : Nd) (frm : Nat) : Bool := decide (¬ (s'.term = s.term ∧ s'.vote = s.vote) ∨ 0 < frm)
def rSnaps (c : Cfg) (s : Nd) (o : List Rf.Msg) : List Nat := (oth c s).filter (· ∈ sk o)
def readyV (s s' : Nd) (frm : Nat) (fl : Nat × Nat) (EA : Option Addr) (en ec : Nat) (MA : Option Addr) (mn mc : Nat) (SA : Option Addr) (sn sc : Nat) : Value :=
  .agg #[iv s'.term, iv s'.vote, .bool (rWrite s s' frm), iv (rFrom s' frm), .slice EA en ec, .slice MA mn mc, iv s'.commit, .slice SA sn sc, iv s'.role, iv s'.leader, iv fl.1, iv fl.2]
def Stepped (p : Nat) (c : Cfg) (s s' : Nd) (frm : Nat) (fl : Nat × Nat) (o : List Rf.Msg) (X D : HP) : Fin := fun v L => ∃ EA ec MA mc SA sc, v = .tuple #[readyV s s' frm fl EA (rEnts s' frm).length ec MA o.length mc SA (rSnaps c s' o).length sc, iv 0] ∧
  L = [NodI p c s', Lg EA (rEnts s' frm).length ec (rFrom s' frm - 1) (rEnts s' frm), Ms MA o.length mc o, Gr 1 3 SA (rSnaps c s' o).length sc ((li (rSnaps c s' o)).map iv), X, D]
theorem step_n {e : EV} {s' : Nd} {frm : Nat} {o : List Rf.Msg} {X D : HP} (hs : Sn c s) (hs' : Sn c s') (hk : 1 ≤ e.kind ∧ e.kind ≤ 7) (hfrm : frm = 0 ∨ (s'.snap < frm ∧ frm ≤ s'.log.length + 1))
    (hH : ∀ bs, Fn Tryz.prog (71 + e.kind) [pt p, .agg (encV e).toArray].toArray [NodS p c bs e.draw s.log (0, 0) s [], X, D] (Det (iv 0) [Nod p c bs s' ⟨e.draw, o.length, frm, fl.1, fl.2⟩ o, X, D])) :
    Fn Tryz.prog 32 [pt p, .agg (encV e).toArray].toArray [NodI p c s, X, D] (Stepped p c s s' frm fl o X D) := by
  refine Fn.enter Tryz.func32 rfl (by kernel_rfl) rfl ?_
  refine run ?_
  refine .box fun z => ?_
  refine .new fun z4 => ?_
  refine run ?_
  refine .first (NodI p c s) ?_
  refine .nodI fun h x hh => ?_
  refine W.plan [1002, 5] mixed (by rfl) (by kernel_rfl) ?_
  refine run ?_
  refine .callN steps_n (Picks.sub .nil) ?_
  rintro v N ⟨zk, rfl, rfl⟩
  refine run ?_
  refine .callQ (within_t (a := e.kind) (lo := 1) (hi := 7) (by omega) (by omega)) ?_
  refine run ?_
  refine .quiet rfl rfl rfl (Q.loadPart (vs := [nv s.term, nv s.vote]) rfl rfl rfl rfl pick rfl rfl) ?_
  refine .new fun z6 => ?_
  refine run ?_
  refine .mkMap (k := 3) (kenc := nv) (venc := uv) fun zs => ?_
  refine run ?_
  have eN : NodS p c zs e.draw s.log (0, 0) s [] = Nod p c zs s (xS e.draw 0 0 (0, 0)) [] := NodS.eq rfl fr_self
  refine .ent (Ent.mk (X := Ms none 0 0 []) fun r => Ms.nil) ?_
  refine .shut (x := xS e.draw 0 0 (0, 0)) (c := c) (p := p) (bs := zs) (ms := []) { h with mA := none, mc := 0, sn := some zs } h s s ⟨hh.1, hh.2, rfl⟩ ?_
  rw [← eN]
  clear eN hh
  clear h x
  refine W.plan [1000] mixed (by rfl) (by kernel_rfl) ?_
  refine run ?_
  refine .callN steps_n (Picks.sub .nil) ?_
  rintro v N ⟨zk2, rfl, rfl⟩
  refine run ?_
  refine RG.take rfl rfl rfl rfl (Q.load (v := fnv (71 + e.kind)) rfl rfl rfl rfl pick (by rw [Nat.zero_add, Nat.mul_one]; exact stepTab_at hk)) ?_ rfl
  refine run ?_
  refine .callD (hH zs) ?_
  refine run ?_
  refine .first (Nod p c zs s' ⟨e.draw, o.length, frm, fl.1, fl.2⟩ o) ?_
  refine .nod fun h hh => ?_
  have hE : FnQ Tryz.prog 57 [pt p].toArray [Nb true p c h s' ⟨e.draw, o.length, frm, fl.1, fl.2⟩] (nv s'.log.length) := end_q (hs'.at hh)
  have hf' := hs'.fin
  have hln := hh.1
  have hx3 : (⟨e.draw, o.length, frm, fl.1, fl.2⟩ : EX).from_ = frm := rfl
  by_cases hfr : frm = 0
  · have e1 : rEnts s' frm = [] := if_pos hfr
    have e2 : rFrom s' frm = s'.log.length + 1 := if_pos hfr
    by_cases hw : s'.term = s.term ∧ s'.vote = s.vote
    all_goals
      refine W.plan [18] mixed (by rfl) (by kernel_rfl) ?_
      refine run ?_
      refine RG.take rfl rfl rfl rfl (Q.loadPart (vs := [nv s'.term, nv s'.vote]) rfl rfl rfl rfl pick rfl rfl) ?_ rfl
      refine run ?_
      refine RG.take rfl rfl rfl rfl (Q.loadPart (vs := [nv s'.term, nv s'.vote]) rfl rfl rfl rfl pick rfl rfl) ?_ rfl
      refine run ?_
      refine RG.takeP rfl rfl rfl rfl (Q.neqH rfl rfl rfl) ?_
      first
      | refine RG.hit 66 rfl (by rw [decide_eq_true (by omega)] : _ = .bool true) ?_
      | refine RG.hit 66 rfl (by rw [decide_eq_false (by omega)] : _ = .bool false) ?_
      refine run ?_
      refine RG.hit 73 rfl (by unfold rWrite; first | rw [decide_eq_true (by omega)] | rw [decide_eq_false (by omega)] : _ = .bool (rWrite s s' frm)) ?_
      refine .callQ hE ?_
      refine run ?_
      refine .new fun z8 => ?_
      refine run ?_
      refine .ent ((Picks.ent (a := [Blk true z8 [nv s'.term, nv s'.vote, .bool (rWrite s s' frm), nv (s'.log.length + 1), .slice none 0 0, .slice h.mA o.length h.mc, nv s'.commit, .slice none 0 0, nv s'.role, nv s'.leader, nv fl.1, nv fl.2] 80]) picks).trans
        (.of (Y := Blk true z8 [nv s'.term, nv s'.vote, .bool (rWrite s s' frm), nv (rFrom s' frm), .slice none (rEnts s' frm).length 0, .slice h.mA o.length h.mc, nv s'.commit, .slice none 0 0, nv s'.role, nv s'.leader, nv fl.1, nv fl.2] 80) fun _ hq => by rw [e1, e2]; exact hq)) ?_
      refine .ent (Ent.mk (X := Lg none (rEnts s' frm).length 0 (rFrom s' frm - 1) (rEnts s' frm)) fun r => by rw [e1]; exact Lg.nil) ?_
      refine .callE (others_ok (s := s') (x := ⟨e.draw, o.length, frm, fl.1, fl.2⟩) (p := p) (c := c) (h := h) peersG hs'.n.2) ?_
      rintro v L ⟨OA, oc, rfl, rfl⟩
      refine run ?_
      refine .ent (Ent.mk (X := Gr 1 3 none 0 0 []) fun r => .nil) ?_
      refine W.loopH (ι := Nat × Option Addr × Nat) (fun i => i.1 ≤ (oth c s').length) (fun i => [(0, pt p), (4, pt z4), (8, pt z8), (130, .slice OA (oth c s').length oc), (131, nv (oth c s').length), (132, nv i.1)])
        (fun i => [Gr 1 3 OA (oth c s').length oc ((li (oth c s')).map iv), Gr 1 3 i.2.1 (((oth c s').take i.1).filter (· ∈ sk o)).length i.2.2 ((li (((oth c s').take i.1).filter (· ∈ sk o))).map iv), Blk true z8 [nv s'.term, nv s'.vote, .bool (rWrite s s' frm), nv (rFrom s' frm), .slice none (rEnts s' frm).length 0, .slice h.mA o.length h.mc, nv s'.commit, .slice i.2.1 (((oth c s').take i.1).filter (· ∈ sk o)).length i.2.2, nv s'.role, nv s'.leader, nv fl.1, nv fl.2] 80,
          Blk true z4 [iv 0, iv 0, .bool false, iv 0, .slice none 0 0, .slice none 0 0, iv 0, .slice none 0 0, iv 0, iv 0, iv 0, iv 0] 80, Nb true p c h s' ⟨e.draw, o.length, frm, fl.1, fl.2⟩, PeersG c h, LgN h s', Rp c h s', MB zs (sk o), Ms h.mA o.length h.mc o, Lg none (rEnts s' frm).length 0 (rFrom s' frm - 1) (rEnts s' frm), X, D])
        (fun i => (oth c s').length - i.1) (0, none, 0) (Nat.zero_le _) subs (Picks.sub picks) ?_
      rintro ⟨k, A1, c1⟩ hk ih
      dsimp only at hk ih ⊢
      have hlen := List.length_filter_le (· ∈ sk o) ((oth c s').take k)
      rw [List.length_take] at hlen
      have hol := oth_len (c := c) (s := s') hs'.n.2
      by_cases hlt : k < (oth c s').length
      · obtain ⟨y, hy⟩ : ∃ y, (oth c s')[k]? = some y := ⟨_, List.getElem?_eq_getElem hlt⟩
        have hyl := oth_le (List.mem_of_getElem? hy)
        have hn5 := hs'.n
        have htk : (oth c s').take (k + 1) = (oth c s').take k ++ [y] := by rw [List.take_add_one, hy]; rfl
        refine W.fact (fun w h => IsA.of (k := k) (Reads.gr (sz := 1) (E := 3)) .hd (by simpa using hlt) h) fun hA => ?_
        refine run ?_
        refine .quiet rfl rfl rfl (R.load (v := nv y) rfl rfl rfl rfl (Reads.gr (sz := 1) (E := 3) (cs := (li (oth c s')).map iv)) pick (by rw [Nat.mul_one]; simp [hy])) ?_
        refine run ?_
        refine .lookB (b := zs) (l := sk o) y (by unfold okN; omega) ?_ (hx := by rw [← hh.2.2]; exact rfl)
        by_cases hin : y ∈ sk o
        · rw [decide_eq_true hin]
          refine run ?_
          refine .lit fun z9 => ?_
          refine run ?_
          refine .push (sz := 1) (m := 1) (Src.pick (cs := [nv y]) rfl rfl .hd .own rfl rfl rfl) fun A3 c3 => ?_
          refine run ?_
          have h2 := ih (k + 1, A3, c3) hlt (by dsimp only; omega)
          rw [htk, List.filter_append, List.filter_cons_of_pos (by simpa using hin), List.filter_nil] at h2
          rw [show li (((oth c s').take k).filter (· ∈ sk o) ++ [y]) = li (((oth c s').take k).filter (· ∈ sk o)) ++ [(y : Int)] by unfold li; rw [List.map_append]; rfl, List.map_append, List.length_append] at h2
          exact .back h2
        · rw [decide_eq_false hin]
          refine run ?_
          have h2 := ih (k + 1, A1, c1) hlt (by dsimp only; omega)
          rw [htk, List.filter_append, List.filter_cons_of_neg (by simpa using hin), List.filter_nil, List.append_nil] at h2
          exact .back h2
      · have hk : k = (oth c s').length := by omega
        subst hk
        rw [List.take_length]
        refine run ?_
        refine .ent (NodI.shut { h with mA := none, mc := 0 } h ⟨e.draw, 0, frm, fl.1, fl.2⟩ s' s' ⟨hh.1, hh.2.1⟩ (Rp.as rfl rfl rfl rfl rfl rfl rfl rfl rfl rfl rfl rfl) picks) ?_
        exact .retE Tryz.func32 ⟨none, 0, h.mA, h.mc, A1, c1, rfl, rfl⟩ (.r2 .agg (.tmp rfl))
  · have hfr2 := hfrm.resolve_left hfr
    have e1 : rEnts s' frm = s'.log.drop (frm - 1) := if_neg hfr
    have e2 : rFrom s' frm = frm := if_neg hfr
    by_cases hw : s'.term = s.term ∧ s'.vote = s.vote
    all_goals
      refine W.plan [18] mixed (by rfl) (by kernel_rfl) ?_
      refine run ?_
      refine RG.take rfl rfl rfl rfl (Q.loadPart (vs := [nv s'.term, nv s'.vote]) rfl rfl rfl rfl pick rfl rfl) ?_ rfl
      refine run ?_
      refine RG.take rfl rfl rfl rfl (Q.loadPart (vs := [nv s'.term, nv s'.vote]) rfl rfl rfl rfl pick rfl rfl) ?_ rfl
      refine run ?_
      refine RG.takeP rfl rfl rfl rfl (Q.neqH rfl rfl rfl) ?_
      first
      | refine RG.hit 66 rfl (by rw [decide_eq_true (by omega)] : _ = .bool true) ?_
      | refine RG.hit 66 rfl (by rw [decide_eq_false (by omega)] : _ = .bool false) ?_
      refine run ?_
      refine RG.hit 73 rfl (by unfold rWrite; first | rw [decide_eq_true (by omega)] | rw [decide_eq_false (by omega)] : _ = .bool (rWrite s s' frm)) ?_
      refine .callQ hE ?_
      refine run ?_
      refine .new fun z8 => ?_
      refine run ?_
      refine .first (LgN h s') ?_
      refine .lg fun les hles => ?_
      have hlen := les_len hles
      rw [List.length_drop] at hlen
      refine W.fact (fun w h => Gr.cap h) fun hcap => ?_
      refine W.plan [] mixed (by rfl) (by kernel_rfl) ?_
      refine run ?_
      refine RG.hit 125 rfl (by congr 1; omega : _ = nv (frm - s'.snap - 1)) ?_
      refine RG.takeP rfl rfl rfl rfl (Q.sliceFrom (lo := frm - s'.snap - 1) rfl rfl rfl rfl rfl rfl (by omega)) ?_
      refine run ?_
      generalize hkk : frm - s'.snap - 1 = kk
      have hdl : (les.drop kk).length = h.ln - kk := by rw [List.length_drop]; omega
      rw [← hdl]
      have hes : (les.drop kk).map (·.e) = ents (frm - 1) (s'.log.drop (frm - 1)) := by
        rw [List.map_drop, hles, ents_drop, List.drop_drop, show s'.snap + kk = frm - 1 by omega]
      refine .callN (copied_n (A := if h.lc = kk then h.lA else adr h.lA (kk * 3)) (l := les.drop kk) (by omega) fun y hy => ?_) (.trans (Picks.sub (a := [Gr 3 67 h.lA h.ln h.lc (les.flatMap encLE), Gs les]) picks) ((Ent.of fun r hr => dropRd kk h.lc hr.rd.lend (by omega)).trans (.cons _ (.of fun r hr => hr.ds.sub fun y hy => List.mem_of_mem_drop hy)))) ?_
      · obtain ⟨j, hj⟩ := List.mem_iff_getElem?.1 (List.mem_of_mem_drop hy)
        obtain ⟨en, h1, h2⟩ := les_at hles hj
        rw [h2]; exact hs'.data en (List.mem_of_mem_drop (List.mem_of_getElem? h1))
      rintro v N ⟨l', A2, c2, rfl, h2, rfl⟩
      rw [hes] at h2
      have hl2 := les_len h2
      refine run ?_
      refine .ent ((Picks.ent (a := [Gr 3 67 A2 l'.length c2 (l'.flatMap encLE), Gs l']) picks).trans (Lg.close h2)) ?_
      refine .ent ((Picks.ent (a := [Gr 3 67 h.lA h.ln h.lc (les.flatMap encLE), Gs les]) picks).trans (Lg.close hles)) ?_
      rw [hl2]
      refine .ent ((Picks.ent (a := [Blk true z8 [nv s'.term, nv s'.vote, .bool (rWrite s s' frm), nv frm, .slice A2 (s'.log.drop (frm - 1)).length c2, .slice h.mA o.length h.mc, nv s'.commit, .slice none 0 0, nv s'.role, nv s'.leader, nv fl.1, nv fl.2] 80]) picks).trans
        (.of (Y := Blk true z8 [nv s'.term, nv s'.vote, .bool (rWrite s s' frm), nv (rFrom s' frm), .slice A2 (rEnts s' frm).length c2, .slice h.mA o.length h.mc, nv s'.commit, .slice none 0 0, nv s'.role, nv s'.leader, nv fl.1, nv fl.2] 80) fun _ hq => by rw [e1, e2]; exact hq)) ?_
      refine .ent ((Picks.ent (a := [Lg A2 (s'.log.drop (frm - 1)).length c2 (frm - 1) (s'.log.drop (frm - 1))]) picks).trans (.of (Y := Lg A2 (rEnts s' frm).length c2 (rFrom s' frm - 1) (rEnts s' frm)) fun _ hq => by rw [e1, e2]; exact hq)) ?_
      refine .callE (others_ok (s := s') (x := ⟨e.draw, o.length, frm, fl.1, fl.2⟩) (p := p) (c := c) (h := h) peersG hs'.n.2) ?_
      rintro v L ⟨OA, oc, rfl, rfl⟩
      refine run ?_
      refine .ent (Ent.mk (X := Gr 1 3 none 0 0 []) fun r => .nil) ?_
      refine W.loopH (ι := Nat × Option Addr × Nat) (fun i => i.1 ≤ (oth c s').length) (fun i => [(0, pt p), (4, pt z4), (8, pt z8), (130, .slice OA (oth c s').length oc), (131, nv (oth c s').length), (132, nv i.1)])
        (fun i => [Gr 1 3 OA (oth c s').length oc ((li (oth c s')).map iv), Gr 1 3 i.2.1 (((oth c s').take i.1).filter (· ∈ sk o)).length i.2.2 ((li (((oth c s').take i.1).filter (· ∈ sk o))).map iv), Blk true z8 [nv s'.term, nv s'.vote, .bool (rWrite s s' frm), nv (rFrom s' frm), .slice A2 (rEnts s' frm).length c2, .slice h.mA o.length h.mc, nv s'.commit, .slice i.2.1 (((oth c s').take i.1).filter (· ∈ sk o)).length i.2.2, nv s'.role, nv s'.leader, nv fl.1, nv fl.2] 80,
          Blk true z4 [iv 0, iv 0, .bool false, iv 0, .slice none 0 0, .slice none 0 0, iv 0, .slice none 0 0, iv 0, iv 0, iv 0, iv 0] 80, Nb true p c h s' ⟨e.draw, o.length, frm, fl.1, fl.2⟩, PeersG c h, LgN h s', Rp c h s', MB zs (sk o), Ms h.mA o.length h.mc o, Lg A2 (rEnts s' frm).length c2 (rFrom s' frm - 1) (rEnts s' frm), X, D])
        (fun i => (oth c s').length - i.1) (0, none, 0) (Nat.zero_le _) subs (Picks.sub picks) ?_
      rintro ⟨k, A1, c1⟩ hk ih
      dsimp only at hk ih ⊢
      have hlen := List.length_filter_le (· ∈ sk o) ((oth c s').take k)
      rw [List.length_take] at hlen
      have hol := oth_len (c := c) (s := s') hs'.n.2
      by_cases hlt : k < (oth c s').length
      · obtain ⟨y, hy⟩ : ∃ y, (oth c s')[k]? = some y := ⟨_, List.getElem?_eq_getElem hlt⟩
        have hyl := oth_le (List.mem_of_getElem? hy)
        have hn5 := hs'.n
        have htk : (oth c s').take (k + 1) = (oth c s').take k ++ [y] := by rw [List.take_add_one, hy]; rfl
        refine W.fact (fun w h => IsA.of (k := k) (Reads.gr (sz := 1) (E := 3)) .hd (by simpa using hlt) h) fun hA => ?_
        refine run ?_
        refine .quiet rfl rfl rfl (R.load (v := nv y) rfl rfl rfl rfl (Reads.gr (sz := 1) (E := 3) (cs := (li (oth c s')).map iv)) pick (by rw [Nat.mul_one]; simp [hy])) ?_
        refine run ?_
        refine .lookB (b := zs) (l := sk o) y (by unfold okN; omega) ?_ (hx := by rw [← hh.2.2]; exact rfl)
        by_cases hin : y ∈ sk o
        · rw [decide_eq_true hin]
          refine run ?_
          refine .lit fun z9 => ?_
          refine run ?_
          refine .push (sz := 1) (m := 1) (Src.pick (cs := [nv y]) rfl rfl .hd .own rfl rfl rfl) fun A3 c3 => ?_
          refine run ?_
          have h2 := ih (k + 1, A3, c3) hlt (by dsimp only; omega)
          rw [htk, List.filter_append, List.filter_cons_of_pos (by simpa using hin), List.filter_nil] at h2
          rw [show li (((oth c s').take k).filter (· ∈ sk o) ++ [y]) = li (((oth c s').take k).filter (· ∈ sk o)) ++ [(y : Int)] by unfold li; rw [List.map_append]; rfl, List.map_append, List.length_append] at h2
          exact .back h2
        · rw [decide_eq_false hin]
          refine run ?_
          have h2 := ih (k + 1, A1, c1) hlt (by dsimp only; omega)
          rw [htk, List.filter_append, List.filter_cons_of_neg (by simpa using hin), List.filter_nil, List.append_nil] at h2
          exact .back h2
      · have hk : k = (oth c s').length := by omega
        subst hk
        rw [List.take_length]
        refine run ?_
        refine .ent (NodI.shut { h with mA := none, mc := 0 } h ⟨e.draw, 0, frm, fl.1, fl.2⟩ s' s' ⟨hh.1, hh.2.1⟩ (Rp.as rfl rfl rfl rfl rfl rfl rfl rfl rfl rfl rfl rfl) picks) ?_
        exact .retE Tryz.func32 ⟨A2, c2, h.mA, h.mc, A1, c1, rfl, rfl⟩ (.r2 .agg (.tmp rfl))
end
end Go.SL
namespace Go.SL
open Go.Proofs Go.Proofs.YtocogcgnahbpkaaGreat
open Rs (Nd)
attribute [local irreducible] W RS RG RD Fn FnQ OpS QOp Own Sat Rd Gr Mp Rg Lg Ms Es Nod Rp NodI
set_option maxRecDepth 10000
section
variable {c : Cfg} {h : HW} {s : Nd} {x : EX} {p bs : Nat} {d : Int} {l0 : List Rf.Ent} {fl : Nat × Nat} {ms : List Rf.Msg} {m : Rf.Msg} {A : Option Addr} {cp : Nat}
theorem step_e {e : EV} {X D : HP} {err : Nat} (hk : 1 ≤ e.kind ∧ e.kind ≤ 7) (he : err ≠ 0)
    (hH : ∀ bs, Fn Tryz.prog (71 + e.kind) [pt p, .agg (encV e).toArray].toArray [NodS p c bs e.draw s.log (0, 0) s [], X, D] (Det (iv err) [NodS p c bs e.draw s.log (0, 0) s [], X, D])) :
    Fn Tryz.prog 32 [pt p, .agg (encV e).toArray].toArray [NodI p c s, X, D] (Det (.tuple #[.agg #[iv 0, iv 0, .bool false, iv 0, .slice none 0 0, .slice none 0 0, iv 0, .slice none 0 0, iv 0, iv 0, iv 0, iv 0], iv err]) [NodI p c s, X, D]) := by
  refine Fn.enter Tryz.func32 rfl (by kernel_rfl) rfl ?_
  refine run ?_
  refine .box fun z => ?_
  refine .new fun z4 => ?_
  refine run ?_
  refine .first (NodI p c s) ?_
  refine .nodI fun h x hh => ?_
  refine W.plan [1002, 5] mixed (by rfl) (by kernel_rfl) ?_
  refine run ?_
  refine .callN steps_n (Picks.sub .nil) ?_
  rintro v N ⟨zk, rfl, rfl⟩
  refine run ?_
  refine .callQ (within_t (a := e.kind) (lo := 1) (hi := 7) (by omega) (by omega)) ?_
  refine run ?_
  refine .quiet rfl rfl rfl (Q.loadPart (vs := [nv s.term, nv s.vote]) rfl rfl rfl rfl pick rfl rfl) ?_
  refine .new fun z6 => ?_
  refine run ?_
  refine .mkMap (k := 3) (kenc := nv) (venc := uv) fun zs => ?_
  refine run ?_
  have eN : NodS p c zs e.draw s.log (0, 0) s [] = Nod p c zs s (xS e.draw 0 0 (0, 0)) [] := NodS.eq rfl fr_self
  refine .ent (Ent.mk (X := Ms none 0 0 []) fun r => Ms.nil) ?_
  refine .shut (x := xS e.draw 0 0 (0, 0)) (c := c) (p := p) (bs := zs) (ms := []) { h with mA := none, mc := 0, sn := some zs } h s s ⟨hh.1, hh.2, rfl⟩ ?_
  rw [← eN]
  clear hh
  clear h x
  refine W.plan [1000] mixed (by rfl) (by kernel_rfl) ?_
  refine run ?_
  refine .callN steps_n (Picks.sub .nil) ?_
  rintro v N ⟨zk2, rfl, rfl⟩
  refine run ?_
  refine RG.take rfl rfl rfl rfl (Q.load (v := fnv (71 + e.kind)) rfl rfl rfl rfl pick (by rw [Nat.zero_add, Nat.mul_one]; exact stepTab_at hk)) ?_ rfl
  refine run ?_
  refine .callD (hH zs) ?_
  refine run ?_
  rw [eN]
  refine .first (Nod p c zs s (xS e.draw 0 0 (0, 0)) []) ?_
  refine .nod fun h hh => ?_
  refine .ent (NodI.shut h h (xS e.draw 0 0 (0, 0)) s s ⟨hh.1, hh.2.1⟩ (Rp.as rfl rfl rfl rfl rfl rfl rfl rfl rfl rfl rfl rfl) picks) ?_
  exact .retE Tryz.func32 ⟨rfl, rfl⟩ (.r2 .agg (.tmp rfl))
def cfgV (c : Cfg) (id : Nat) (pA : Option Addr) (pc : Nat) : List Value := [nv id, .slice pA c.n pc, nv c.least, nv c.most, nv c.beat, nv c.batch]
structure CfgOk (c : Cfg) : Prop where
  n : 1 ≤ c.n ∧ c.n ≤ 5
  t : 1 ≤ c.beat ∧ c.beat < c.least ∧ c.least ≤ c.most ∧ c.most ≤ 1000
  b : 1 ≤ c.batch ∧ c.batch ≤ 16
abbrev peersL (c : Cfg) : List Value := (li (List.range' 1 c.n)).map iv
theorem peers_at {c : Cfg} {k : Nat} (hk : k < c.n) : (peersL c)[k]? = some (nv (k + 1)) := by
  simp [peersL, li, List.getElem?_range', hk, Nat.add_comm]
theorem peers_len {c : Cfg} : (peersL c).length = c.n := by simp [peersL, li]
theorem configured_t {X : HP} {id : Nat} {pA : Option Addr} {pc : Nat} (hc : CfgOk c) (hid : 1 ≤ id ∧ id ≤ c.n) (hX : Reads X pA (peersL c)) : FnQ Tryz.prog 63 [.agg (cfgV c id pA pc).toArray].toArray [X] (.bool true) := by
  refine (Fn.quietD (M := [Rd false pA (peersL c)]) ?_ pers3).pre (.of hX)
  obtain ⟨⟨n1, n2⟩, ⟨t1, t2, t3, t4⟩, b1, b2⟩ := hc
  have hR : Reads (Rd false pA (peersL c)) pA (peersL c) := Reads.rd
  refine Fn.enter Tryz.func63 rfl (by kernel_rfl) rfl ?_
  refine run ?_
  refine .box fun z => ?_
  refine run ?_
  refine W.loopH (ι := Nat) (fun k => k ≤ c.n) (fun k => [(1, pt z), (7, .slice pA c.n pc), (8, nv c.n), (9, nv k)])
    (fun k => [Blk true z (cfgV c id pA pc) 27, Rd false pA (peersL c)]) (fun k => c.n - k) 0 (Nat.zero_le _) subs (.refl _) ?_
  intro k hk ih
  by_cases hlt : k < c.n
  · refine W.fact (fun w h => IsA.of (k := k) hR pick (by rw [peers_len]; exact hlt) h) fun hA => ?_
    refine run ?_
    refine .quiet rfl rfl rfl (R.load (v := nv (k + 1)) rfl rfl rfl rfl hR pick (by rw [Nat.mul_one]; exact peers_at hlt)) ?_
    refine run ?_
    refine .callQ (within_t (a := (k + 1 : Nat)) (lo := 1) (hi := 7) (by omega) (by omega)) ?_
    by_cases h0 : k = 0
    · refine run ?_
      exact .back (ih (k + 1) hlt (by omega))
    · refine run ?_
      refine RS.hit 25 rfl (by congr 1; omega : _ = nv (k - 1)) ?_
      refine run ?_
      refine .quiet rfl rfl rfl (R.load (v := nv k) rfl rfl rfl rfl hR pick (by rw [Nat.mul_one, peers_at (k := k - 1) (by omega), Nat.sub_add_cancel (by omega)])) ?_
      refine run ?_
      exact .back (ih (k + 1) hlt (by omega))
  · have hh := has_q (c := pc) (v := id) (Reads.rd (q := false) (A := pA) (cs := peersL c)) (by simp; omega)
    rw [decide_eq_true (li_mem.2 (List.mem_range'_1.2 (by omega)))] at hh
    simp only [li, List.length_map, List.length_range'] at hh
    refine run ?_
    refine .callQ hh ?_
    refine run ?_
    refine .callQ (within_t (a := c.batch) (lo := 1) (hi := 16) (by omega) (by omega)) ?_
    refine run ?_
    exact .retD Tryz.func63
def stV (s : Nd) (A : Option Addr) (cp : Nat) : List Value := [nv s.term, nv s.vote, nv s.snap, nv (s.tm s.snap), nv s.commit, .slice A (s.log.length - s.snap) cp]
structure StOk (c : Cfg) (s : Nd) : Prop where
  term : s.term ≤ 1099511627776
  vote : s.vote = 0 ∨ (1 ≤ s.term ∧ 1 ≤ s.vote ∧ s.vote ≤ c.n)
  tm : (s.tm s.snap = 0 ↔ s.snap = 0) ∧ s.tm s.snap ≤ s.term
  log : s.log.length ≤ 65536 ∧ s.snap ≤ s.commit ∧ s.commit ≤ s.log.length
  goes : goesP (s.log.drop s.snap) (s.tm s.snap) s.term
theorem stated_t {X Y : HP} {pA : Option Addr} {pc id : Nat} {mes : List LE} (hn : 1 ≤ c.n ∧ c.n ≤ 5) (hs : StOk c s) (hX : Reads X pA (peersL c)) (hY : Reads Y A (mes.flatMap encLE)) (hmes : mes.map (·.e) = ents s.snap (s.log.drop s.snap)) :
    FnQ Tryz.prog 64 [.agg (cfgV c id pA pc).toArray, .agg (stV s A cp).toArray].toArray [X, Y] (.bool true) := by
  refine (Fn.quietD (M := [Rd false pA (peersL c), Rd false A (mes.flatMap encLE)]) ?_ (fun Q hQ => by
    rcases List.mem_cons.1 hQ with rfl | hQ
    · exact Rd.pers
    · rw [List.mem_singleton.1 hQ]; exact Rd.pers)).pre ((Ent.of hX).trans (.cons _ (.of hY)))
  obtain ⟨s1, s2, ⟨s3, s4⟩, ⟨s5, s6, s7⟩, s8⟩ := hs
  have hml := les_len hmes
  rw [List.length_drop] at hml
  have hG := goes_t (A := A) (cp := cp) (Reads.rd (q := false)) hmes s8 (by rw [List.length_drop]; omega) (by rw [List.length_drop]; omega)
  rw [List.length_drop] at hG
  have hV : 1 ≤ s.vote ∧ s.vote ≤ c.n → FnQ Tryz.prog 86 [.slice pA c.n pc, nv s.vote].toArray [Rd false pA (peersL c)] (.bool true) := fun hv => by
    have hh := has_q (c := pc) (v := s.vote) (Reads.rd (q := false) (A := pA) (cs := peersL c)) (by simp; omega)
    rw [decide_eq_true (li_mem.2 (List.mem_range'_1.2 (by omega)))] at hh
    simpa only [li, List.length_map, List.length_range'] using hh
  clear hX hY hmes s8
  refine Fn.enter Tryz.func64 rfl (by kernel_rfl) rfl ?_
  refine run ?_
  refine .box fun z => ?_
  refine .box fun z3 => ?_
  refine run ?_
  refine .quiet rfl rfl rfl (Q.loadPart (vs := [nv s.term, nv s.vote]) rfl rfl rfl rfl pick rfl rfl) ?_
  refine .new fun z5 => ?_
  refine run ?_
  refine .callQ (within_t (a := s.term) (lo := 0) (hi := 1099511627776) (by omega) (by omega)) ?_
  by_cases hv : s.vote = 0
  case' pos => refine run ?_
  case' neg =>
    obtain ⟨v1, v2, v3⟩ := s2.resolve_left hv
    refine run ?_
    refine .callQ (hV ⟨v2, v3⟩) ?_
    refine run ?_
  all_goals
    refine .callQ (within_t (a := s.snap) (lo := 0) (hi := 1099511627776) (by omega) (by omega)) ?_
    by_cases hz : s.snap = 0
    all_goals
      refine run ?_
      refine .quiet rfl rfl rfl (Q.neqB rfl rfl rfl Tryz.underlying4) ?_
      refine run ?_
      refine .callQ (within_t (a := s.tm s.snap) (lo := 0) (hi := s.term) (by omega) (by omega)) ?_
      refine run ?_
      refine .callQ hG ?_
      refine run ?_
      refine .callQ (within_t (a := s.commit) (lo := s.snap) (hi := (s.snap : Int) + (s.log.length - s.snap : Nat)) (by omega) (by omega)) ?_
      refine run ?_
      exact .retD Tryz.func64
end
end Go.SL
namespace Go.SL
open Go.Proofs Go.Proofs.YtocogcgnahbpkaaGreat
open Rs (Nd)
attribute [local irreducible] W RS RG RD Fn FnQ OpS QOp Own Sat Rd Gr Mp Rg Lg Ms Es Nod Rp NodI
set_option maxRecDepth 10000
section
variable {c : Cfg} {h : HW} {s : Nd} {x : EX} {p bs : Nat} {d : Int} {l0 : List Rf.Ent} {fl : Nat × Nat} {ms : List Rf.Msg} {m : Rf.Msg} {A : Option Addr} {cp : Nat}
structure Fresh (s : Nd) : Prop where
  role : s.role = 1
  leader : s.leader = 0
  beat : s.beat = 0
  heir : s.heir = 0
def fresh (s : Nd) : Nd := { s with role := 1, leader := 0, beat := 0, heir := 0, elapsed := 0, timeout := 0 }
theorem fresh_eq (hf : Fresh s) : Rs.rest c d (fresh s) = Rs.rest c d s := by
  obtain ⟨h1, h2, h3, h4⟩ := hf
  cases s
  simp only at h1 h2 h3 h4
  subst h1; subst h2; subst h3; subst h4
  rfl
theorem new_n {X Y D : HP} {pA : Option Addr} {pc : Nat} {mes : List LE} (hc : CfgOk c) (hs : Sn c s) (hst : StOk c s) (hf : Fresh s) (hX : Reads X pA (peersL c)) (hY : Reads Y A (mes.flatMap encLE)) (hD : DRead D mes) (hmes : mes.map (·.e) = ents s.snap (s.log.drop s.snap)) :
    Fn Tryz.prog 47 [.agg (cfgV c s.id pA pc).toArray, .agg (stV s A cp).toArray, iv d].toArray [X, Y, D]
    (fun v L => ∃ p, v = .tuple #[pt p, iv 0] ∧ L = [NodI p c (Rs.rest c d s), X, Y, D]) := by
  have hml := les_len hmes
  rw [List.length_drop] at hml
  have hsf := hs.fin
  have hC := configured_t (pc := pc) hc hs.id hX
  have hS := stated_t (pc := pc) (id := s.id) (cp := cp) hc.n hst hX hY hmes
  have hdat : ∀ y ∈ mes, y.e.data.length ≤ 140737488351232 := fun y hy => by
    obtain ⟨k, hk⟩ := List.mem_iff_getElem?.1 hy
    obtain ⟨en, h1, h2⟩ := les_at hmes hk
    rw [h2]; exact hs.data en (List.mem_of_mem_drop (List.mem_of_getElem? h1))
  have hCp := copied_n (A := A) (c := cp) (l := mes) (by omega) hdat
  rw [hml] at hCp
  have hpl : (li (List.range' 1 c.n)).length = c.n := by simp [li]
  have hI := iclone_ok (l := li (List.range' 1 c.n)) (c := pc) hX (by rw [hpl]; have := hc.n; omega)
  rw [hpl] at hI
  refine Fn.enter Tryz.func47 rfl (by kernel_rfl) rfl ?_
  refine run ?_
  refine .box fun z => ?_
  refine .box fun z4 => ?_
  refine run ?_
  refine .callQ hC ?_
  refine run ?_
  refine .callQ hS ?_
  refine run ?_
  refine .callE hI ?_
  rintro v L ⟨A', c', rfl, rfl⟩
  rw [hpl]
  refine run ?_
  refine W.plan [1005] mixed (by rfl) (by kernel_rfl) ?_
  refine run ?_
  refine RG.take rfl rfl rfl rfl (Q.loadPart (vs := [nv s.term, nv s.vote]) rfl rfl rfl rfl pick rfl rfl) ?_ rfl
  refine run ?_
  refine .callN hCp (.trans (Picks.sub (a := [Y, D]) picks) ((Ent.of hY).trans (.cons _ (.of hD)))) ?_
  rintro v N ⟨l', A2, c2, rfl, h2, rfl⟩
  have hl2 : l'.length = s.log.length - s.snap := by have := congrArg List.length h2; simpa [hml] using this
  rw [hl2]
  refine run ?_
  refine .box fun zp => ?_
  refine run ?_
  refine .ent ((Picks.ent (a := [Gr 3 67 A2 (s.log.length - s.snap) c2 (l'.flatMap encLE), Gs l']) picks).trans (Lg.close (i := s.snap) (l := s.log.drop s.snap) (by rw [h2, hmes]))) ?_
  refine .callD (rest_ok (p := zp) (c := c) (h := ⟨A', c', A2, c2, none, none, none, none, none, none, none, 0, s.log.length - s.snap, s.tm s.snap⟩) (s := fresh s) (x := ⟨d, 0, 0, 0, 0⟩) hs.cf) ?_
  refine run ?_
  rw [fresh_eq hf]
  refine .ent (Rp.c1 (c := c) (h := ⟨A', c', A2, c2, none, none, none, none, none, none, none, 0, s.log.length - s.snap, s.tm s.snap⟩) (s := Rs.rest c d s) hf.role) ?_
  refine .ent (NodI.shut ⟨A', c', A2, c2, none, none, none, none, none, none, none, 0, s.log.length - s.snap, s.tm s.snap⟩ ⟨A', c', A2, c2, none, none, none, none, none, none, none, 0, s.log.length - s.snap, s.tm s.snap⟩ ⟨d, 0, 0, 0, 0⟩ (Rs.rest c d s) (Rs.rest c d s) ⟨rfl, rfl⟩ rfl picks) ?_
  exact .retE Tryz.func47 ⟨zp, rfl, rfl⟩
end
end Go.SL
