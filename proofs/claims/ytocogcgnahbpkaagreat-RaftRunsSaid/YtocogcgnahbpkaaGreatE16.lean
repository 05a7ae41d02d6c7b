/-
  A part of the proof of what E53 says at its head.
-/
import Derived.Test.YtocogcgnahbpkaaGreatE15
namespace Go.SL
open Go.Proofs Go.Proofs.YtocogcgnahbpkaaGreat
open Rs (Nd)
attribute [local irreducible] W RS RG RD Fn FnQ OpS QOp Own Sat Rd Gr Mp Rg Lg Ms Es Nod Rp
set_option maxRecDepth 10000
section
variable {c : Cfg} {h : HW} {s : Nd} {x : EX} {p bs : Nat} {d : Int} {l0 : List Rf.Ent} {fl : Nat × Nat} {ms : List Rf.Msg} {m : Rf.Msg} {A : Option Addr} {cp : Nat}
theorem Sn.el' (hs : Sn c s) {s' : Nd} (h1 : s'.id = s.id) (h2 : s'.term = s.term) (h3 : s'.snap = s.snap) (h4 : s'.commit = s.commit) (h5 : s'.log = s.log) (he : s'.elapsed ≤ 1099511627776 ∧ s'.beat ≤ 1099511627776) : Sn c s' :=
  hs.mk (by rw [h1]; exact hs.id) (by rw [h2]; exact hs.term) (by rw [h3, h4, h5]; exact hs.fin) (by rw [h5]; exact hs.data) he
theorem end_n (hs : Sn c s) : FnQ Tryz.prog 57 [pt p].toArray [Nod p c bs s x ms] (nv s.log.length) :=
  .nod (.of Tryz.func57 rfl (by kernel_rfl)) fun _ hh => (end_q (hs.at hh)).pre (Picks.sub picks)
theorem stuck_n (hs : Sn c s) : FnQ Tryz.prog 136 [pt p].toArray [Nod p c bs s x ms] (.bool (Rs.stuck s)) :=
  .nod (.of Tryz.func136 rfl (by kernel_rfl)) fun _ hh => (stuck_q (hs.at hh)).pre (Picks.sub picks)
theorem maj_n (k : Nat) (hk : k ≤ 1099511627776) : FnQ Tryz.prog 96 [pt p, iv k].toArray [Nod p c bs s x ms] (.bool (Rs.maj c k)) :=
  .nod (.of Tryz.func96 rfl (by kernel_rfl)) fun _ _ => (maj_q k hk).pre (Picks.sub picks)
theorem led_n : FnQ Tryz.prog 101 [pt p].toArray [Nod p c bs s x ms] (.bool (Rs.led c s)) :=
  .nod (.of Tryz.func101 rfl (by kernel_rfl)) fun _ _ => led_q.pre (Picks.sub picks)
theorem term_n (hs : Sn c s) {i : Nat} (hi : s.snap ≤ i ∧ i ≤ s.log.length) : FnQ Tryz.prog 107 [pt p, iv i].toArray [Nod p c bs s x ms] (nv (s.tm i)) :=
  .nod (.of Tryz.func107 rfl (by kernel_rfl)) fun _ hh => (term_q (hs.at hh) hi).pre (Picks.sub picks)
theorem good_n (hs : Sn c s) : FnQ Tryz.prog 156 [pt p, .agg (encM m A cp).toArray].toArray [Nod p c bs s x ms] (.bool (Rs.good m s)) :=
  .nod (.of Tryz.func156 rfl (by kernel_rfl)) fun _ hh => (good_q (hs.at hh)).pre (Picks.sub picks)
theorem isOther_n (hs : Sn c s) {v : Int} : FnQ Tryz.prog 108 [pt p, iv v].toArray [Nod p c bs s x ms] (.bool (decide (v ∈ li (oth c s)))) :=
  .nod (.of Tryz.func108 rfl (by kernel_rfl)) fun _ _ => (isOther_q peersG hs.n.2).pre (Picks.sub picks)
theorem follow_n (hs : Sn c s) {term leader : Nat} : Fn Tryz.prog 97 [pt p, iv term, iv leader].toArray [Nod p c bs s x ms] (Det (.tuple #[]) [Nod p c bs (Rs.follow c x.draw term leader s) x ms]) :=
  .nod (.of Tryz.func97 rfl (by kernel_rfl)) fun h hh => ((follow_ok (hs.at hh)).frame picks).mono fun v L hL => by
    obtain ⟨_, ⟨rfl, rfl⟩, rfl⟩ := hL
    refine ⟨_, ?_, rfl, rfl⟩
    refine (Picks.ent (a := [Nb true p c h (Rs.follow c x.draw term leader s) x, PeersG c h, LgN h s, MB bs (sk ms), Ms h.mA x.mn h.mc ms]) picks).trans ?_
    refine (Rp.c1 (c := c) (h := h) (s := Rs.follow c x.draw term leader s) rfl).trans ?_
    exact (Picks.ent (a := [Nb true p c h (Rs.follow c x.draw term leader s) x, PeersG c h, LgN h s, Rp c h (Rs.follow c x.draw term leader s), MB bs (sk ms), Ms h.mA x.mn h.mc ms]) picks).trans ((Nod.close (c := c) (s := Rs.follow c x.draw term leader s) h hh).trans (Picks.sub picks))
theorem count_n (hs : Sn c s) (hr : s.role = 4) : Fn Tryz.prog 105 [pt p].toArray [Nod p c bs s x ms] (Det (.tuple #[]) [Nod p c bs (Rs.count c s) x ms]) := by
  refine .nod (.of Tryz.func105 rfl (by kernel_rfl)) fun h hh => ?_
  refine .pre ?_ (Picks.ent (a := [Rp c h s]) picks)
  refine .rp4 (.of Tryz.func105 rfl (by kernel_rfl)) hr fun bm bn bh h1 h2 h3 => ?_
  refine ((count_ok (x := x) (p := p) (hs.at hh) h1).frame picks).mono ?_
  rintro v L ⟨_, ⟨rfl, rfl⟩, rfl⟩
  refine ⟨_, ?_, rfl, rfl⟩
  refine (Picks.ent (a := [MI bm s.mt (oth c s), MI bn s.nx (oth c s), MB bh s.hd]) picks).trans ?_
  refine (Rp.c4 (c := c) (h := h) (s := Rs.count c s) hr h1 h2 h3).trans ?_
  exact (Picks.ent (a := [Nb true p c h (Rs.count c s) x, PeersG c h, LgN h s, Rp c h (Rs.count c s), MB bs (sk ms), Ms h.mA x.mn h.mc ms]) picks).trans ((Nod.close (c := c) (s := Rs.count c s) h hh).trans (Picks.sub picks))
theorem sendAll_n (hs : Sn c s) (hr : s.role = 4) (hl : LdN c s) (hm : ms.length ≤ 500) : Fn Tryz.prog 98 [pt p].toArray [NodS p c bs d l0 fl s ms] (Det (.tuple #[]) [NodS p c bs d l0 fl s (ms ++ Rs.apps c s)]) := by
  refine .nod (.of Tryz.func98 rfl (by kernel_rfl)) fun h hh => ?_
  refine .pre ?_ (Picks.ent (a := [Rp c h s]) picks)
  refine .rp4 (.of Tryz.func98 rfl (by kernel_rfl)) hr fun bm bn bh h1 h2 h3 => ?_
  refine ((sendAll_ok (p := p) (x := xS d ms.length (fr l0 s.log) fl) (ms := ms) peersG (hs.at hh) hl hm h2 hh.2.2).frame picks).mono ?_
  rintro v L ⟨_, ⟨rfl, A', c', rfl⟩, rfl⟩
  have hL : (ms ++ Rs.apps c s).length = ms.length + (oth c s).length := by rw [List.length_append, apps_len]
  rw [NodS.eq (s := s) hL rfl]
  refine ⟨_, ?_, rfl, rfl⟩
  refine (Picks.ent (a := [MI bm s.mt (oth c s), MI bn s.nx (oth c s), MB bh s.hd]) picks).trans ?_
  refine (Rp.c4 (c := c) (h := { h with mA := A', mc := c' }) (s := s) hr h1 h2 h3).trans ?_
  exact (Picks.ent (a := [Nb true p c { h with mA := A', mc := c' } s (xS d (ms.length + (oth c s).length) (fr l0 s.log) fl), PeersG c h, LgN h s, Rp c { h with mA := A', mc := c' } s, _, _]) picks).trans ((Nod.close (c := c) (s := s) { h with mA := A', mc := c' } hh).trans (Picks.sub picks))
theorem sendTo_n {to : Nat} (hs : Sn c s) (hr : s.role = 4) (hto : to ∈ oth c s) (hl : 1 ≤ s.nx to ∧ s.nx to ≤ s.log.length + 1) (hm : ms.length ≤ 500) : Fn Tryz.prog 110 [pt p, iv to].toArray [NodS p c bs d l0 fl s ms] (Det (.tuple #[]) [NodS p c bs d l0 fl s (ms ++ [Rs.app c s to])]) := by
  refine .nod (.of Tryz.func110 rfl (by kernel_rfl)) fun h hh => ?_
  refine .pre ?_ (Picks.ent (a := [Rp c h s]) picks)
  refine .rp4 (.of Tryz.func110 rfl (by kernel_rfl)) hr fun bm bn bh h1 h2 h3 => ?_
  refine ((sendTo_ok (p := p) (x := xS d ms.length (fr l0 s.log) fl) (ms := ms) (hs.at hh) (by show ms.length ≤ _; omega) h2 hh.2.2 hto hl).frame picks).mono ?_
  rintro v L ⟨_, ⟨rfl, A', c', rfl⟩, rfl⟩
  have hL : (ms ++ [Rs.app c s to]).length = ms.length + 1 := by rw [List.length_append]; rfl
  rw [NodS.eq (s := s) hL rfl]
  refine ⟨_, ?_, rfl, rfl⟩
  refine (Picks.ent (a := [MI bm s.mt (oth c s), MI bn s.nx (oth c s), MB bh s.hd]) picks).trans ?_
  refine (Rp.c4 (c := c) (h := { h with mA := A', mc := c' }) (s := s) hr h1 h2 h3).trans ?_
  exact (Picks.ent (a := [Nb true p c { h with mA := A', mc := c' } s (xS d (ms.length + 1) (fr l0 s.log) fl), PeersG c h, LgN h s, Rp c { h with mA := A', mc := c' } s, _, _]) picks).trans ((Nod.close (c := c) (s := s) { h with mA := A', mc := c' } hh).trans (Picks.sub picks))
theorem send_n {to : Nat} (hm : ms.length ≤ 500) (h7 : m.kind ≠ 7) : Fn Tryz.prog 138 [pt p, iv to, .agg (encM m A cp).toArray].toArray [NodS p c bs d l0 fl s ms, Lg A m.es.length cp m.idx m.es] (Det (.tuple #[]) [NodS p c bs d l0 fl s (ms ++ [sent s to m])]) := by
  refine .nod (.of Tryz.func138 rfl (by kernel_rfl)) fun h hh => ?_
  refine ((send_ok (p := p) (c := c) (h := h) (s := s) (x := xS d ms.length (fr l0 s.log) fl) (to := to) (m := m) (A := A) (cp := cp) (ms := ms) (by show ms.length ≤ _; omega)).frame picks).mono ?_
  rintro v L ⟨_, ⟨rfl, A', c', rfl⟩, rfl⟩
  have hL : (ms ++ [sent s to m]).length = ms.length + 1 := by rw [List.length_append]; rfl
  have e : sk ms = sk (ms ++ [sent s to m]) := by rw [sk_snoc]; exact (if_neg h7).symm
  rw [NodS.eq (s := s) hL rfl, e]
  refine ⟨_, ?_, rfl, rfl⟩
  refine (Picks.ent (a := [Rp c h s]) picks).trans ?_
  refine (Rp.to s { h with mA := A', mc := c' }).trans ?_
  exact (Picks.ent (a := [Nb true p c { h with mA := A', mc := c' } s (xS d (ms.length + 1) (fr l0 s.log) fl), PeersG c h, LgN h s, Rp c { h with mA := A', mc := c' } s, _, _]) picks).trans ((Nod.close (c := c) (s := s) { h with mA := A', mc := c' } hh).trans (Picks.sub picks))
theorem Sm.mk' (hs : Sn c s) : s.snap ≤ s.log.length := by have := hs.fin; omega
theorem join_n {X D : HP} {l : List LE} {new : List Rf.Ent} (hs : Sn c s) (hX : Reads X A (l.flatMap encLE)) (hD : DRead D l) (hn : l.map (·.e) = ents s.log.length new)
    (hl : s.log.length - s.snap + new.length ≤ 65536) (hd : ∀ e ∈ new, e.data.length ≤ 140737488351232) (hfr : fj (fr l0 s.log) s.log.length new = fr l0 (s.log ++ new)) :
    Fn Tryz.prog 104 [pt p, .slice A l.length cp].toArray [NodS p c bs d l0 fl s ms, X, D] (Det (.tuple #[]) [NodS p c bs d l0 fl (upN s new) ms, X, D]) := by
  refine .nod (.of Tryz.func104 rfl (by kernel_rfl)) fun h hh => ?_
  refine ((join_ok (p := p) (x := xS d ms.length (fr l0 s.log) fl) (cp := cp) (hs.at hh) hX hD hn hl hd).frame picks).mono ?_
  rintro v L ⟨_, ⟨rfl, A', c', rfl⟩, rfl⟩
  rw [NodS.eq (s := upN s new) rfl hfr.symm]
  refine ⟨_, ?_, rfl, rfl⟩
  have hh2 : HwOk bs (upN s new) { h with lA := A', lc := c', ln := h.ln + new.length } := by
    refine ⟨?_, ?_, hh.2.2⟩
    · have := Sm.mk' hs
      show h.ln + new.length = (s.log ++ new).length - s.snap; rw [List.length_append, hh.1]; omega
    · exact hh.2.1.trans (tm_app (Sm.mk' hs)).symm
  refine (Picks.ent (a := [Rp c h s]) picks).trans ?_
  refine (Rp.to (upN s new) { h with lA := A', lc := c', ln := h.ln + new.length }).trans ?_
  exact (Picks.ent (a := [Nb true p c { h with lA := A', lc := c', ln := h.ln + new.length } (upN s new) (xS d ms.length (fj (fr l0 s.log) s.log.length new) fl), PeersG c h, Lg A' (h.ln + new.length) c' s.snap ((s.log ++ new).drop s.snap), Rp c { h with lA := A', lc := c', ln := h.ln + new.length } (upN s new), _, _]) picks).trans ((Nod.close (c := c) (s := upN s new) { h with lA := A', lc := c', ln := h.ln + new.length } hh2).trans (Picks.sub picks))
end
end Go.SL
namespace Go.SL
open Go.Proofs Go.Proofs.YtocogcgnahbpkaaGreat
open Rs (Nd)
theorem Gs.drop {L : List HP} : ∀ (k : Nat) {l : List LE}, Ent (Gs l :: L) (Gs (l.drop k) :: L)
  | 0, _ => .refl _
  | _ + 1, [] => .refl _
  | k + 1, y :: l => (Ent.star (l := [_, _]) (m := L)).trans ((Ent.drop _).trans (Gs.drop k (l := l)))
attribute [local irreducible] W RS RG RD Fn FnQ OpS QOp Own Sat Rd Gr Mp Rg Lg Ms Es Nod Rp
set_option maxRecDepth 10000
section
variable {c : Cfg} {h : HW} {s : Nd} {x : EX} {p bs : Nat} {d : Int} {l0 : List Rf.Ent} {fl : Nat × Nat} {ms : List Rf.Msg} {m : Rf.Msg} {A : Option Addr} {cp : Nat}
theorem within_q {a lo hi : Int} : FnQ Tryz.prog 55 [iv a, iv lo, iv hi].toArray [] (.bool (decide (lo ≤ a ∧ a ≤ hi))) := by
  refine Fn.quietD (M := []) ?_ (fun Q hQ => nomatch hQ)
  refine Fn.enter Tryz.func55 rfl (by kernel_rfl) rfl ?_
  by_cases h1 : lo ≤ a
  · by_cases h2 : a ≤ hi
    · refine run ?_
      refine W.hit 6 rfl (by simp [h1, h2] : _ = .bool (decide (lo ≤ a ∧ a ≤ hi))) ?_
      exact .retD Tryz.func55
    · refine run ?_
      refine W.hit 6 rfl (by simp [h2] : _ = .bool (decide (lo ≤ a ∧ a ≤ hi))) ?_
      exact .retD Tryz.func55
  · refine run ?_
    refine W.hit 6 rfl (by simp [h1] : _ = .bool (decide (lo ≤ a ∧ a ≤ hi))) ?_
    exact .retD Tryz.func55
theorem within_t {a lo hi : Int} (h1 : lo ≤ a) (h2 : a ≤ hi) : FnQ Tryz.prog 55 [iv a, iv lo, iv hi].toArray [] (.bool true) := by
  have := within_q (a := a) (lo := lo) (hi := hi); rwa [decide_eq_true ⟨h1, h2⟩] at this
theorem within_f {a lo hi : Int} (h : ¬ (lo ≤ a ∧ a ≤ hi)) : FnQ Tryz.prog 55 [iv a, iv lo, iv hi].toArray [] (.bool false) := by
  have := within_q (a := a) (lo := lo) (hi := hi); rwa [decide_eq_false h] at this
theorem eclone_ok {X : HP} {l : List LE} (hX : Reads X A (l.flatMap encLE)) (hl : l.length ≤ 1099511627776) : Fn Tryz.prog 149 [.slice A l.length cp].toArray [X]
    (fun v L => ∃ A' c', v = .slice A' l.length c' ∧ L = [Gr 3 67 A' l.length c' (l.flatMap encLE), X]) := by
  refine Fn.enter Tryz.func149 rfl (by kernel_rfl) rfl ?_
  refine W.fact (fun w h => nil_of hX .hd h) fun hnil => ?_
  refine run ?_
  refine RS.quiet rfl rfl rfl (Q.eqNilS rfl rfl rfl rfl rfl) ?_
  cases A with
  | none =>
    have hl0 : l = [] := by
      have := congrArg List.length (hnil rfl)
      rw [flat_len lenLE] at this
      exact List.eq_nil_of_length_eq_zero (by rw [List.length_nil] at this; omega)
    subst hl0
    refine run ?_
    refine W.ent (Ent.mk (X := Gr 3 67 none 0 0 []) fun r => .nil) ?_
    exact .retE Tryz.func149 ⟨none, 0, rfl, rfl⟩
  | some a =>
    refine run ?_
    refine RS.any rfl rfl rfl (N.buildSlice0 rfl rfl rfl rfl).op ?_
    rintro v L ⟨z, rfl, rfl⟩
    refine run ?_
    refine .push (sz := 3) (nn := 0) (m := l.length) (Src.pick rfl rfl .hd hX (flat_len lenLE _) rfl (allLE l)) fun A' c' => ?_
    simp only [Nat.zero_add, List.nil_append]
    refine run ?_
    exact .retE Tryz.func149 ⟨A', c', rfl, rfl⟩
theorem cut_ok {X : HP} {l : List LE} {i t : Nat} (hX : Reads X A (l.flatMap encLE)) (hl : l.length ≤ 1099511627776) : Fn Tryz.prog 106 [pt p, iv i, iv t, .slice A l.length cp].toArray [Nb true p c h s x, X]
    (fun v L => v = .tuple #[] ∧ ∃ A' c', L = [Gr 3 67 A' l.length c' (l.flatMap encLE), Nb true p c { h with lA := A', lc := c', ln := l.length, tS := t } { s with snap := i } x, X]) := by
  refine Fn.enter Tryz.func106 rfl (by kernel_rfl) rfl ?_
  refine run ?_
  refine .callE (eclone_ok hX hl) ?_
  rintro v L ⟨A', c', rfl, rfl⟩
  refine run ?_
  exact .doneE Tryz.func106 ⟨rfl, A', c', rfl⟩
structure EV where
  kind : Nat
  draw : Int
  m : Rf.Msg
  A : Option Addr
  c : Nat
  dA : Option Addr
  dn : Nat
  dc : Nat
  peer : Nat
  idx : Nat
  term : Nat
abbrev encV (e : EV) : List Value := [iv e.kind, iv e.draw, .int .i64 e.m.kind, .int .i64 e.m.src, .int .i64 e.m.dst, .int .i64 e.m.term, .int .i64 e.m.idx, .int .i64 e.m.lt, .int .i64 e.m.commit, .slice e.A e.m.es.length e.c, .bool e.m.rej, .int .i64 e.m.hint, .slice e.dA e.dn e.dc, iv e.peer, iv e.idx, iv e.term]
theorem dropRd {l : List LE} {r : Res} (k cap : Nat) (h : Rd false A (l.flatMap encLE) r) (hl : l.length ≤ cap) : Rd false (if cap = k then A else adr A (k * 3)) ((l.drop k).flatMap encLE) r := by
  split
  · rw [List.drop_eq_nil_of_le (by omega)]; exact Rd.nil
  · have := h.part k l.length
    rwa [List.take_of_length_le (by rw [List.length_drop]; omega)] at this
theorem compact_ok {e : EV} (hs : Sn c s) (hi : s.snap < e.idx ∧ e.idx ≤ s.commit) : Fn Tryz.prog 75 [pt p, .agg (encV e).toArray].toArray [NodS p c bs d l0 fl s ms]
    (Det (iv 0) [NodS p c bs d l0 fl (Rs.compact e.idx s) ms]) := by
  have hf := hs.fin
  refine Fn.enter Tryz.func75 rfl (by kernel_rfl) rfl ?_
  refine run ?_
  refine .box fun z => ?_
  refine run ?_
  refine .first (NodS p c bs d l0 fl s ms) ?_
  refine .nod fun h hh => ?_
  have hln := hh.1
  refine .first (LgN h s) ?_
  refine .lg fun les hles => ?_
  have hlen := les_len hles
  rw [List.length_drop] at hlen
  have hsm := hs.at hh
  refine W.fact (fun w h => Gr.cap h) fun hcap => ?_
  refine W.plan [] mixed (by rfl) (by kernel_rfl) ?_
  refine run ?_
  refine W.plan [6] mixed (by rfl) (by kernel_rfl) ?_
  refine run ?_
  refine .callQ (v := nv (s.tm e.idx)) (FnQ.pre (term_r (x := ⟨d, ms.length, fr l0 s.log, fl.1, fl.2⟩) (p := p) hsm hles (i := e.idx) (by omega)) (lend2 (q := true) (X := Gr 3 67 h.lA h.ln h.lc (les.flatMap encLE)) .gr)) ?_
  refine run ?_
  refine RG.hit 38 rfl (by congr 1; omega : _ = nv (e.idx - s.snap)) ?_
  refine RG.takeP rfl rfl rfl rfl (Q.sliceFrom (lo := e.idx - s.snap) rfl rfl rfl rfl rfl rfl (by omega)) ?_
  refine run ?_
  generalize hk : e.idx - s.snap = k
  have hdl : (les.drop k).length = h.ln - k := by rw [List.length_drop]; omega
  rw [← hdl]
  refine .callE (cut_ok (A := if h.lc = k then h.lA else adr h.lA (k * 3)) (c := c) (h := h) (s := s) (x := ⟨d, ms.length, fr l0 s.log, fl.1, fl.2⟩) (p := p) (i := e.idx) (t := s.tm e.idx) (X := Gr 3 67 h.lA h.ln h.lc (les.flatMap encLE)) (fun r hr => dropRd k h.lc hr.rd.lend (by omega)) (by omega)) ?_
  rintro v L ⟨rfl, A', c', rfl⟩
  refine run ?_
  refine .ent ((Picks.ent (a := [Gs les, Gr 3 67 A' (les.drop k).length c' ((les.drop k).flatMap encLE)]) picks).trans ((Gs.drop k).trans ((Ent.perm (.swap _ _ _)).trans (Lg.close (i := e.idx) (l := s.log.drop e.idx) (by
    rw [List.map_drop, hles, ents_drop, List.drop_drop, show s.snap + k = e.idx by omega]))))) ?_
  have hh1 : HwOk bs (Rs.compact e.idx s) { h with lA := A', lc := c', ln := (les.drop k).length, tS := s.tm e.idx } := ⟨by rw [hdl]; show h.ln - k = s.log.length - e.idx; omega, rfl, hh.2.2⟩
  refine .shutS { h with lA := A', lc := c', ln := (les.drop k).length, tS := s.tm e.idx } h (Rs.compact e.idx s) s hh1 ?_
  exact .retD Tryz.func75
theorem inst_keep {L : List Rf.Ent} (h : L.length ≤ s.fin ∧ s.tm L.length = Rf.tmL L L.length) : Rs.installed L s = { s with snap := L.length, commit := L.length } := by unfold Rs.installed; rw [if_pos h]
theorem inst_new {L : List Rf.Ent} (h : ¬ (L.length ≤ s.fin ∧ s.tm L.length = Rf.tmL L L.length)) : Rs.installed L s = { s with log := L, snap := L.length, commit := L.length } := by unfold Rs.installed; rw [if_neg h]
theorem installed_ok {e : EV} {L : List Rf.Ent} (hs : Sn c s) (hr : s.role ≠ 4) (hi : s.commit < e.idx ∧ e.idx = L.length ∧ e.idx < 1099511627776) (ht : 1 ≤ e.term ∧ e.term ≤ s.term) (hL : Rf.tmL L L.length = e.term) : Fn Tryz.prog 76 [pt p, .agg (encV e).toArray].toArray [NodS p c bs d l0 fl s ms]
    (Det (iv 0) [Nod p c bs (Rs.installed L s) ⟨d, ms.length, e.idx + 1, fl.1, fl.2⟩ ms]) := by
  have hf := hs.fin
  refine Fn.enter Tryz.func76 rfl (by kernel_rfl) rfl ?_
  refine run ?_
  refine .box fun z => ?_
  refine run ?_
  refine .first (NodS p c bs d l0 fl s ms) ?_
  refine .nod fun h hh => ?_
  have hln := hh.1
  refine .first (LgN h s) ?_
  refine .lg fun les hles => ?_
  have hlen := les_len hles
  rw [List.length_drop] at hlen
  have hsm := hs.at hh
  refine W.fact (fun w h => Gr.cap h) fun hcap => ?_
  refine W.plan [2, 12] mixed (by rfl) (by kernel_rfl) ?_
  refine run ?_
  refine .callQ (within_t (a := e.idx) (lo := 1) (hi := 1099511627776) (by omega) (by omega)) ?_
  refine run ?_
  refine .callQ (within_t (a := e.term) (lo := 1) (hi := s.term) (by omega) (by omega)) ?_
  refine run ?_
  refine W.plan [] mixed (by rfl) (by kernel_rfl) ?_
  refine run ?_
  have hX : FnQ Tryz.prog 57 [pt p].toArray [Nb true p c h s ⟨d, ms.length, fr l0 s.log, fl.1, fl.2⟩] (nv s.log.length) := end_q hsm
  by_cases h1 : e.idx ≤ s.log.length
  · have hT := FnQ.pre (term_r (x := ⟨d, ms.length, fr l0 s.log, fl.1, fl.2⟩) (p := p) hsm hles (i := e.idx) (by omega)) (lend2 (q := true) (X := Gr 3 67 h.lA h.ln h.lc (les.flatMap encLE)) .gr)
    by_cases h2 : s.tm e.idx = e.term
    · rw [inst_keep ⟨by rw [← hi.2.1]; exact h1, by rw [hL, ← hi.2.1]; exact h2⟩, ← hi.2.1]
      refine W.plan [3, 9] mixed (by rfl) (by kernel_rfl) ?_
      refine run ?_
      refine .callQ hX ?_
      refine run ?_
      refine .callQ hT ?_
      refine run ?_
      refine W.plan [] mixed (by rfl) (by kernel_rfl) ?_
      refine run ?_
      refine RG.hit 60 rfl (by congr 1; omega : _ = nv (e.idx - s.snap)) ?_
      refine RG.takeP rfl rfl rfl rfl (Q.sliceFrom (lo := e.idx - s.snap) rfl rfl rfl rfl rfl rfl (by omega)) ?_
      refine run ?_
      generalize hk : e.idx - s.snap = k
      have hdl : (les.drop k).length = h.ln - k := by rw [List.length_drop]; omega
      rw [← hdl]
      refine .callE (cut_ok (A := if h.lc = k then h.lA else adr h.lA (k * 3)) (c := c) (h := h) (s := s) (x := ⟨d, ms.length, fr l0 s.log, fl.1, fl.2⟩) (p := p) (i := e.idx) (t := e.term) (X := Gr 3 67 h.lA h.ln h.lc (les.flatMap encLE)) (fun r hr => dropRd k h.lc hr.rd.lend (by omega)) (by omega)) ?_
      rintro v L ⟨rfl, A', c', rfl⟩
      refine run ?_
      refine .ent ((Picks.ent (a := [Gs les, Gr 3 67 A' (les.drop k).length c' ((les.drop k).flatMap encLE)]) picks).trans ((Gs.drop k).trans ((Ent.perm (.swap _ _ _)).trans (Lg.close (i := e.idx) (l := s.log.drop e.idx) (by
        rw [List.map_drop, hles, ents_drop, List.drop_drop, show s.snap + k = e.idx by omega]))))) ?_
      have hh1 : HwOk bs { s with snap := e.idx, commit := e.idx } { h with lA := A', lc := c', ln := (les.drop k).length, tS := e.term } := ⟨by rw [hdl]; show h.ln - k = s.log.length - e.idx; omega, h2.symm, hh.2.2⟩
      refine .shut (x := ⟨d, ms.length, e.idx + 1, fl.1, fl.2⟩) (c := c) (p := p) (bs := bs) (ms := ms) { h with lA := A', lc := c', ln := (les.drop k).length, tS := e.term } h { s with snap := e.idx, commit := e.idx } s hh1 ?_
      exact .retD Tryz.func76
    · rw [inst_new (by rw [hL, ← hi.2.1]; exact fun hc => h2 hc.2), ← hi.2.1]
      refine W.plan [3, 9] mixed (by rfl) (by kernel_rfl) ?_
      refine run ?_
      refine .callQ hX ?_
      refine run ?_
      refine .callQ hT ?_
      refine run ?_
      refine .callE (cut_ok (A := none) (cp := 0) (l := []) (c := c) (h := h) (s := s) (x := ⟨d, ms.length, fr l0 s.log, fl.1, fl.2⟩) (p := p) (i := e.idx) (t := e.term) (X := Gr 3 67 h.lA h.ln h.lc (les.flatMap encLE)) (fun r hr => Rd.nil) (by simp)) ?_
      rintro v L ⟨rfl, A', c', rfl⟩
      refine run ?_
      refine .ent (Ent.mk (X := Gs []) fun _ => trivial) ?_
      refine .ent ((Picks.ent (a := [Gr 3 67 A' 0 c' [], Gs []]) picks).trans (Lg.close (i := e.idx) (l := L.drop e.idx) (les := []) (by rw [List.drop_eq_nil_of_le (by omega)]; rfl))) ?_
      have hh1 : HwOk bs { s with log := L, snap := e.idx, commit := e.idx } { h with lA := A', lc := c', ln := 0, tS := e.term } := ⟨by show 0 = L.length - e.idx; omega, by show e.term = Rf.tmL L e.idx; rw [hi.2.1, hL], hh.2.2⟩
      refine .shut (x := ⟨d, ms.length, e.idx + 1, fl.1, fl.2⟩) (c := c) (p := p) (bs := bs) (ms := ms) { h with lA := A', lc := c', ln := 0, tS := e.term } h { s with log := L, snap := e.idx, commit := e.idx } s hh1 ?_
      exact .retD Tryz.func76
  · rw [inst_new (by rw [hL, ← hi.2.1]; exact fun hc => h1 hc.1), ← hi.2.1]
    refine W.plan [3, 9] mixed (by rfl) (by kernel_rfl) ?_
    refine run ?_
    refine .callQ hX ?_
    refine run ?_
    refine .callE (cut_ok (A := none) (cp := 0) (l := []) (c := c) (h := h) (s := s) (x := ⟨d, ms.length, fr l0 s.log, fl.1, fl.2⟩) (p := p) (i := e.idx) (t := e.term) (X := Gr 3 67 h.lA h.ln h.lc (les.flatMap encLE)) (fun r hr => Rd.nil) (by simp)) ?_
    rintro v L ⟨rfl, A', c', rfl⟩
    refine run ?_
    refine .ent (Ent.mk (X := Gs []) fun _ => trivial) ?_
    refine .ent ((Picks.ent (a := [Gr 3 67 A' 0 c' [], Gs []]) picks).trans (Lg.close (i := e.idx) (l := L.drop e.idx) (les := []) (by rw [List.drop_eq_nil_of_le (by omega)]; rfl))) ?_
    have hh1 : HwOk bs { s with log := L, snap := e.idx, commit := e.idx } { h with lA := A', lc := c', ln := 0, tS := e.term } := ⟨by show 0 = L.length - e.idx; omega, by show e.term = Rf.tmL L e.idx; rw [hi.2.1, hL], hh.2.2⟩
    refine .shut (x := ⟨d, ms.length, e.idx + 1, fl.1, fl.2⟩) (c := c) (p := p) (bs := bs) (ms := ms) { h with lA := A', lc := c', ln := 0, tS := e.term } h { s with log := L, snap := e.idx, commit := e.idx } s hh1 ?_
    exact .retD Tryz.func76
end
end Go.SL
namespace Go.SL
open Go.Proofs Go.Proofs.YtocogcgnahbpkaaGreat
open Rs (Nd)
attribute [local irreducible] W RS RG RD Fn FnQ OpS QOp Own Sat Rd Gr Mp Rg Lg Ms Es Nod Rp
set_option maxRecDepth 10000
section
variable {c : Cfg} {h : HW} {s : Nd} {x : EX} {p bs : Nat} {d : Int} {l0 : List Rf.Ent} {fl : Nat × Nat} {ms : List Rf.Msg} {m : Rf.Msg} {A : Option Addr} {cp : Nat}
theorem li_mem {l : List Nat} {y : Nat} : (y : Int) ∈ li l ↔ y ∈ l := by
  unfold li; rw [List.mem_map]
  exact ⟨fun ⟨a, h1, h2⟩ => by rw [← (by exact_mod_cast h2 : a = y)]; exact h1, fun h => ⟨y, h, rfl⟩⟩
theorem isOther_t (hs : Sn c s) {y : Nat} (hy : y ∈ oth c s) : FnQ Tryz.prog 108 [pt p, nv y].toArray [Nod p c bs s x ms] (.bool true) := by
  have := isOther_n (p := p) (bs := bs) (x := x) (ms := ms) hs (v := y); rwa [decide_eq_true (li_mem.2 hy)] at this
theorem isOther_f (hs : Sn c s) {y : Nat} (hy : y ∉ oth c s) : FnQ Tryz.prog 108 [pt p, nv y].toArray [Nod p c bs s x ms] (.bool false) := by
  have := isOther_n (p := p) (bs := bs) (x := x) (ms := ms) hs (v := y); rwa [decide_eq_false (fun h => hy (li_mem.1 h))] at this
theorem handed_n (hs : Sn c s) (hr : s.role = 4) (hy : s.heir ∈ oth c s) (hm : ms.length ≤ 500) : Fn Tryz.prog 109 [pt p].toArray [NodS p c bs d l0 fl s ms]
    (Det (.bool (decide (s.mt s.heir = s.log.length))) [NodS p c bs d l0 fl s (if s.mt s.heir = s.log.length then ms ++ [Rs.over s s.heir] else ms)]) := by
  have hyl := oth_le hy
  have hn := hs.n
  refine Fn.enter Tryz.func109 rfl (by kernel_rfl) rfl ?_
  refine run ?_
  refine .first (NodS p c bs d l0 fl s ms) ?_
  refine .nod fun h hh => ?_
  refine .first (Rp c h s) ?_
  refine .rp4 hr fun bm bn bh g1 g2 g3 => ?_
  have hE : FnQ Tryz.prog 57 [pt p].toArray [Nb true p c h s ⟨d, ms.length, fr l0 s.log, fl.1, fl.2⟩] (nv s.log.length) := end_q (hs.at hh)
  refine W.plan [10] mixed (by rfl) (by kernel_rfl) ?_
  refine run ?_
  refine .lookI (b := bm) (f := s.mt) s.heir (by unfold okN; omega) hy ?_ (hx := by rw [← g1]; exact rfl)
  refine run ?_
  refine .callQ hE ?_
  by_cases h1 : s.mt s.heir = s.log.length
  · rw [if_pos h1, decide_eq_true h1]
    refine run ?_
    refine .ent ((Picks.ent (a := [MI bm s.mt (oth c s), MI bn s.nx (oth c s), MB bh s.hd]) picks).trans (Rp.c4 (c := c) (h := h) (s := s) hr g1 g2 g3)) ?_
    refine .shutS (l0 := l0) h h s s hh ?_
    refine .ent (Ent.mk (X := Lg none 0 0 0 []) fun r => Lg.nil) ?_
    refine .callD (send_n (to := s.heir) (m := { kind := 8, src := 0, dst := 0, term := 0 }) (A := none) (cp := 0) (c := c) (s := s) (p := p) (bs := bs) (d := d) (l0 := l0) (fl := fl) (ms := ms) hm (by show 8 ≠ 7; omega)) ?_
    refine run ?_
    exact .retD Tryz.func109
  · rw [if_neg h1, decide_eq_false h1]
    refine run ?_
    refine .ent ((Picks.ent (a := [MI bm s.mt (oth c s), MI bn s.nx (oth c s), MB bh s.hd]) picks).trans (Rp.c4 (c := c) (h := h) (s := s) hr g1 g2 g3)) ?_
    refine .shutS (l0 := l0) h h s s hh ?_
    exact .retD Tryz.func109
theorem handOver_ok {e : EV} (hs : Sn c s) (hr : s.role = 4) (hy : e.peer ∈ oth c s) (hl : LdN c s) (hm : ms.length ≤ 500) : Fn Tryz.prog 77 [pt p, .agg (encV e).toArray].toArray [NodS p c bs d l0 fl s ms]
    (Det (iv 0) [NodS p c bs d l0 fl (Rs.handOver c e.peer s).1 (ms ++ (Rs.handOver c e.peer s).2)]) := by
  have hs1 : Sn c { s with heir := e.peer, elapsed := 0 } := hs.mk hs.id hs.term hs.fin hs.data ⟨by show 0 ≤ _; omega, hs.el.2⟩
  refine Fn.enter Tryz.func77 rfl (by kernel_rfl) rfl ?_
  refine run ?_
  refine .box fun z => ?_
  refine run ?_
  refine .callQ (isOther_t (bs := bs) (x := ⟨d, ms.length, fr l0 s.log, fl.1, fl.2⟩) (ms := ms) hs hy) ?_
  refine run ?_
  refine .first (NodS p c bs d l0 fl s ms) ?_
  refine .nod fun h hh => ?_
  refine run ?_
  refine .shutS (l0 := l0) h h { s with heir := e.peer, elapsed := 0 } s hh ?_
  refine .callD (handed_n (s := { s with heir := e.peer, elapsed := 0 }) (bs := bs) (d := d) (l0 := l0) (fl := fl) (ms := ms) hs1 hr hy hm) ?_
  show RS _ _ _ _ _ ((_, .bool (decide (s.mt e.peer = s.log.length))) :: _) (NodS p c bs d l0 fl { s with heir := e.peer, elapsed := 0 } (if s.mt e.peer = s.log.length then _ else _) :: _)
  unfold Rs.handOver
  dsimp only
  by_cases h1 : s.mt e.peer = s.log.length
  · rw [if_pos h1, decide_eq_true h1, if_pos (by exact h1)]
    refine run ?_
    exact .retD Tryz.func77
  · rw [if_neg h1, decide_eq_false h1, if_neg (by exact h1)]
    refine run ?_
    refine .callD (sendTo_n (s := { s with heir := e.peer, elapsed := 0 }) (to := e.peer) (bs := bs) (d := d) (l0 := l0) (fl := fl) (ms := ms) hs1 hr hy (hl _ hy) hm) ?_
    refine run ?_
    exact .retD Tryz.func77
theorem handOver_e1 {e : EV} (hs : Sn c s) (hy : e.peer ∉ oth c s) : Fn Tryz.prog 77 [pt p, .agg (encV e).toArray].toArray [NodS p c bs d l0 fl s ms] (Det (iv 161) [NodS p c bs d l0 fl s ms]) := by
  refine Fn.enter Tryz.func77 rfl (by kernel_rfl) rfl ?_
  refine run ?_
  refine .box fun z => ?_
  refine run ?_
  refine .callQ (isOther_f (bs := bs) (x := ⟨d, ms.length, fr l0 s.log, fl.1, fl.2⟩) (ms := ms) hs hy) ?_
  refine run ?_
  exact .retD Tryz.func77
theorem handOver_e2 {e : EV} (hs : Sn c s) (hy : e.peer ∈ oth c s) (hr : s.role ≠ 4) : Fn Tryz.prog 77 [pt p, .agg (encV e).toArray].toArray [NodS p c bs d l0 fl s ms] (Det (iv 162) [NodS p c bs d l0 fl s ms]) := by
  refine Fn.enter Tryz.func77 rfl (by kernel_rfl) rfl ?_
  refine run ?_
  refine .box fun z => ?_
  refine run ?_
  refine .callQ (isOther_t (bs := bs) (x := ⟨d, ms.length, fr l0 s.log, fl.1, fl.2⟩) (ms := ms) hs hy) ?_
  refine run ?_
  refine .first (NodS p c bs d l0 fl s ms) ?_
  refine .nod fun h hh => ?_
  refine run ?_
  refine .shutS (l0 := l0) h h s s hh ?_
  exact .retD Tryz.func77
theorem far_e {e : EV} (hs : Sn c s) (hy : e.peer ∉ oth c s) : Fn Tryz.prog 78 [pt p, .agg (encV e).toArray].toArray [NodS p c bs d l0 fl s ms] (Det (iv 161) [NodS p c bs d l0 fl s ms]) := by
  refine Fn.enter Tryz.func78 rfl (by kernel_rfl) rfl ?_
  refine run ?_
  refine .box fun z => ?_
  refine run ?_
  refine .callQ (isOther_f (bs := bs) (x := ⟨d, ms.length, fr l0 s.log, fl.1, fl.2⟩) (ms := ms) hs hy) ?_
  refine run ?_
  exact .retD Tryz.func78
theorem far_ok {e : EV} (hs : Sn c s) (hy : e.peer ∈ oth c s) : Fn Tryz.prog 78 [pt p, .agg (encV e).toArray].toArray [NodS p c bs d l0 fl s ms] (Det (iv 0) [NodS p c bs d l0 fl (Rs.far e.peer s) ms]) := by
  have hyl := oth_le hy
  have hn := hs.n
  unfold Rs.far
  refine Fn.enter Tryz.func78 rfl (by kernel_rfl) rfl ?_
  refine run ?_
  refine .box fun z => ?_
  refine run ?_
  refine .callQ (isOther_t (bs := bs) (x := ⟨d, ms.length, fr l0 s.log, fl.1, fl.2⟩) (ms := ms) hs hy) ?_
  refine run ?_
  refine .first (NodS p c bs d l0 fl s ms) ?_
  refine .nod fun h hh => ?_
  by_cases hr : s.role = 4
  · rw [if_pos hr]
    refine .first (Rp c h s) ?_
    refine .rp4 hr fun bm bn bh g1 g2 g3 => ?_
    refine run ?_
    refine W.plan [] mixed (by rfl) (by kernel_rfl) ?_
    refine run ?_
    refine .det0 rfl rfl rfl (O.delete (kenc := nv) (venc := uv) (b := bh) (l := mb s.hd) K3 (i := e.peer) rfl rfl rfl (by rw [← g3]; exact rfl) rfl (by unfold okN; omega) pick) ?_
    rw [kdel_mb]
    refine run ?_
    refine .ent ((Picks.ent (a := [MI bm s.mt (oth c s), MI bn s.nx (oth c s), MB bh (s.hd.filter (· ≠ e.peer))]) picks).trans (Rp.c4 (c := c) (h := h) (s := { s with hd := s.hd.filter (· ≠ e.peer) }) hr g1 g2 g3)) ?_
    refine .shutS (l0 := l0) h h { s with hd := s.hd.filter (· ≠ e.peer) } { s with hd := s.hd.filter (· ≠ e.peer) } hh ?_
    exact .retD Tryz.func78
  · rw [if_neg hr]
    refine run ?_
    refine .shutS (l0 := l0) h h s s hh ?_
    exact .retD Tryz.func78
end
end Go.SL
