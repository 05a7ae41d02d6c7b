/-
  A part of the proof of what E53 says at its head.
-/
import Derived.Test.YtocogcgnahbpkaaGreatE42
namespace Go.SL
open Go.Proofs Go.Proofs.YtocogcgnahbpkaaGreat
open Rs (Nd)
set_option maxRecDepth 10000
structure ST where
  bs : Nat
  x : SC
  s : Nd
def SeatP (c : Rf.Cfg) (q : ST) : HP := Stars [Blk true q.bs (scells q.x q.s) 52, NodX q.x.bo q.x.a c q.s, RLd q.x.lA q.s.snap (q.s.log.drop q.s.snap)]
structure WS where
  a : WC
  S : List ST
  net : List Rf.Msg
  G : MG
abbrev seatB (c : Rf.Cfg) (w : WS) : HP := Gr 1 35 w.a.SA c.n w.a.sc ((w.S.map (·.bs)).map pt)
abbrev WP (c : Rf.Cfg) (bw : Nat) (w : WS) : List HP :=
  [Blk true bw (wcells c w.a) 43, seatB c w, Sl (SeatP c) w.S, MapsP w.G w.a.mL w.a.mV w.a.mK w.a.mT, NetP w.a.NA w.a.nn w.a.nc w.net, Rd false w.a.pA (peersL c)]
def WS.step (w : WS) (i : Nat) (q : ST) (net : List Rf.Msg) (G : MG) (s' : Nd) (r : Rdy) (hi : Nat) (NA : Option Addr) (nc : Nat) (lA : Option Addr) (lc : Nat) : WS :=
  ⟨{ w.a with hi := hi, NA := NA, nn := (trim w.a.calm (net ++ r.ms)).length, nc := nc }, w.S.set i ⟨q.bs, { q.x with lA := lA, lc := lc, cm := r.commit, mo := max q.x.mo r.commit, ro := r.role, le := r.leader }, s'⟩, trim w.a.calm (net ++ r.ms), G⟩
def Keeps (Φ : WS → Prop) (w : WS) (i : Nat) (q : ST) (net : List Rf.Msg) (G : MG) (s' : Nd) (r : Rdy) : Prop :=
  ∀ hi NA nc lA lc, w.a.hi ≤ hi → hi ≤ max w.a.hi r.commit → s'.log.length - s'.snap ≤ lc → Φ (w.step i q net G s' r hi NA nc lA lc)
def Can (c : Rf.Cfg) (Φ : WS → Prop) (w : WS) (i : Nat) (q : ST) (e : EV) (data : List (List Int)) : Prop :=
  ∃ s' r G, MG.le w.G G ∧ EvGo c q.s e data s' r 0 ∧ StIn e w.a q.x q.s G w.net s' r ∧ Keeps Φ w i q w.net G s' r
def Goes (c : Rf.Cfg) (bw : Nat) (Φ : WS → Prop) (v0 : Value) : Fin := fun v L => ∃ w, Φ w ∧ v = v0 ∧ L = WP c bw w
attribute [local irreducible] W RS RG RT RD Fn FnQ OpS QOp Own Sat Rd Gr Mp Rg Lg Ms Es Nod Rp NodI RLg RMs REs RN RLd RNF EsD MsD NBk BkP BkRd BothI MapsP KnD NetP
section
variable {c : Rf.Cfg} {bw i : Nat} {w : WS} {q : ST} {Φ : WS → Prop} {e : EV} {L : List HP} {s' : Nd} {r : Rdy} {G : MG} {v0 : Value}
theorem seat_out (hq : w.S[i]? = some q) (hG : MG.le w.G G) : Ent (WP c bw w) (StepP c bw q.bs w.a q.x q.s G w.net ++ [seatB c w, Sl (SeatP c) (w.S.eraseIdx i), Rd false w.a.pA (peersL c)]) := by
  unfold WP
  refine (Picks.ent (a := [Sl (SeatP c) w.S]) picks).trans ((Sl.out hq).trans ?_)
  refine (Ent.star (l := [_, _, _])).trans ?_
  refine (Picks.ent (a := [MapsP w.G w.a.mL w.a.mV w.a.mK w.a.mT]) picks).trans ((Ent.of fun r hr => MapsP.ext hG hr).trans ?_)
  exact Picks.sub picks
theorem seat_back {q' : ST} {a' : WC} {net' : List Rf.Msg} (hq : w.S[i]? = some q) (hb : q'.bs = q.bs) (hSA : a'.SA = w.a.SA ∧ a'.sc = w.a.sc ∧ a'.pA = w.a.pA) :
    Ent (StepP c bw q'.bs a' q'.x q'.s G net' ++ [seatB c w, Sl (SeatP c) (w.S.eraseIdx i), Rd false w.a.pA (peersL c)]) (WP c bw ⟨a', w.S.set i q', net', G⟩) := by
  have hi : i < w.S.length := (List.getElem?_eq_some_iff.1 hq).1
  have e1 : (w.S.set i q').eraseIdx i = w.S.eraseIdx i := List.eraseIdx_set_eq
  have e2 : (w.S.set i q')[i]? = some q' := by rw [List.getElem?_set_self hi]
  have e3 : seatB c ⟨a', w.S.set i q', net', G⟩ = seatB c w := by
    unfold seatB
    have : (w.S.set i q').map (·.bs) = w.S.map (·.bs) := by
      rw [List.map_set, hb]
      have h2 : (w.S.map (·.bs))[i]? = some q.bs := by rw [List.getElem?_map, hq]; rfl
      exact List.ext_getElem? fun j => by
        by_cases hj : i = j
        · subst hj; rw [List.getElem?_set_self (by rw [List.length_map]; exact hi), h2]
        · rw [List.getElem?_set_ne hj]
    dsimp only
    rw [this, hSA.1, hSA.2.1]
  unfold WP
  rw [e3]
  dsimp only
  rw [hSA.2.2]
  refine (Picks.ent (a := [Blk true q'.bs (scells q'.x q'.s) 52, NodX q'.x.bo q'.x.a c q'.s, RLd q'.x.lA q'.s.snap (q'.s.log.drop q'.s.snap), Sl (SeatP c) (w.S.eraseIdx i)]) picks).trans ?_
  refine (Ent.unstar (l := [_, _, _])).trans ?_
  rw [← e1]
  refine (Sl.back (f := SeatP c) e2).trans ?_
  exact Picks.sub picks
theorem lift_step {f : Nat} {ar : Array Value} (hq : w.S[i]? = some q) (hG : MG.le w.G G) (hK : Keeps Φ w i q w.net G s' r) (hF : Fn Tryz.prog f ar (StepP c bw q.bs w.a q.x q.s G w.net) (Step2 c bw q.bs w.a q.x G w.net s' r v0)) :
    Fn Tryz.prog f ar (WP c bw w) (Goes c bw Φ v0) := by
  refine ((hF.frame (L := StepP c bw q.bs w.a q.x q.s G w.net ++ [seatB c w, Sl (SeatP c) (w.S.eraseIdx i), Rd false w.a.pA (peersL c)]) (.cons .hd (.cons .hd (.cons .hd (.cons .hd (.cons .hd (.cons .hd .nil))))))).mono ?_).pre (seat_out hq hG)
  rintro v L ⟨M, ⟨hi, NA, nc, lA, lc, b1, b2, b3, rfl, rfl⟩, rfl⟩
  exact ⟨_, seat_back (w := w) (i := i) (q := q) (G := G) (a' := { w.a with hi := hi, NA := NA, nn := (trim w.a.calm (w.net ++ r.ms)).length, nc := nc }) (q' := ⟨q.bs, { q.x with lA := lA, lc := lc, cm := r.commit, mo := max q.x.mo r.commit, ro := r.role, le := r.leader }, s'⟩) (net' := trim w.a.calm (w.net ++ r.ms)) hq rfl ⟨rfl, rfl, rfl⟩, w.step i q w.net G s' r hi NA nc lA lc, hK hi NA nc lA lc b1 b2 b3, rfl, rfl⟩
theorem lift_same {f : Nat} {ar : Array Value} (hq : w.S[i]? = some q) (hF : Fn Tryz.prog f ar (StepP c bw q.bs w.a q.x q.s w.G w.net) (Det v0 (StepP c bw q.bs w.a q.x q.s w.G w.net))) :
    Fn Tryz.prog f ar (WP c bw w) (Det v0 (WP c bw w)) := by
  refine ((hF.frame (L := StepP c bw q.bs w.a q.x q.s w.G w.net ++ [seatB c w, Sl (SeatP c) (w.S.eraseIdx i), Rd false w.a.pA (peersL c)]) (.cons .hd (.cons .hd (.cons .hd (.cons .hd (.cons .hd (.cons .hd .nil))))))).mono ?_).pre (seat_out hq ⟨fun _ _ => rfl, fun _ _ _ => rfl, fun _ _ _ h => h⟩)
  rintro v L ⟨M, ⟨rfl, rfl⟩, rfl⟩
  refine ⟨_, seat_back (w := w) (i := i) (q := q) (G := w.G) (a' := w.a) (net' := w.net) (q' := q) hq rfl ⟨rfl, rfl, rfl⟩, rfl, ?_⟩
  have e : w.S.set i q = w.S := by
    obtain ⟨hi, he⟩ := List.getElem?_eq_some_iff.1 hq
    rw [← he]; exact List.set_getElem_self hi
  rw [e]
theorem can_n (hq : w.S[i]? = some q) (he : e.A = none ∧ e.dA = none ∧ e.dn = 0 ∧ e.m.es = []) (h : Can c Φ w i q e []) :
    Fn Tryz.prog 15 [pt bw, pt q.bs, .agg (encV e).toArray].toArray (WP c bw w) (Goes c bw Φ (.tuple #[iv 0, .bool true])) := by
  obtain ⟨s', r, G, h1, h2, h3, h4⟩ := h
  exact lift_step hq h1 h4 (wstep0_n h2 he h3)
theorem cannot_n {err : Nat} (hq : w.S[i]? = some q) (he : e.A = none ∧ e.dA = none ∧ e.dn = 0 ∧ e.m.es = []) (h0 : err ≠ 0) (h : EvGo c q.s e [] q.s {} (err : Nat)) :
    Fn Tryz.prog 15 [pt bw, pt q.bs, .agg (encV e).toArray].toArray (WP c bw w) (Det (.tuple #[nv err, .bool true]) (WP c bw w)) := lift_same hq (wstep0_e h he h0)
theorem compact_n {k : Int} (hq : w.S[i]? = some q) (hb : q.x.cm ≤ 1000000) (h : q.s.snap < q.x.cm → Can c Φ w i q (evC (wholeN k (q.s.snap + 1) q.x.cm)) []) (h0 : Φ w) :
    Fn Tryz.prog 26 [pt bw, pt q.bs, iv k].toArray (WP c bw w) (Goes c bw Φ (.bool true)) := by
  by_cases hlt : q.s.snap < q.x.cm
  · obtain ⟨s', r, G, h1, h2, h3, h4⟩ := h hlt
    exact lift_step hq h1 h4 (compact_w hlt hb h2 h3)
  · refine (lift_same hq (compact_no (by omega))).mono ?_
    rintro v L ⟨rfl, rfl⟩
    exact ⟨_, .refl _, w, h0, rfl, rfl⟩
theorem install_n {q2 : ST} {j : Nat} (hq : w.S[i]? = some q) (hq2 : w.S[j]? = some q2) (hsn : q.s.snap ≤ q.x.cm) (h : q.x.cm < q2.s.snap → q2.s.tm q2.s.snap ≤ q.s.term → q.x.ro ≠ 4 → Can c Φ w i q (evI q2.s.snap (q2.s.tm q2.s.snap)) []) (h0 : Φ w) :
    Fn Tryz.prog 27 [pt bw, pt q.bs, pt q2.bs].toArray (WP c bw w) (Goes c bw Φ (.bool true)) := by
  by_cases hij : i = j
  · subst hij
    rw [hq] at hq2; injection hq2 with hq2; subst hq2
    refine (lift_same hq (install_self hsn)).mono ?_
    rintro v L ⟨rfl, rfl⟩
    exact ⟨_, .refl _, w, h0, rfl, rfl⟩
  · obtain ⟨j', hj'⟩ : ∃ j', (w.S.eraseIdx i)[j']? = some q2 := by
      by_cases hlt : j < i
      · exact ⟨j, by rw [List.getElem?_eraseIdx, if_pos hlt]; exact hq2⟩
      · exact ⟨j - 1, by rw [List.getElem?_eraseIdx, if_neg (by omega), Nat.sub_add_cancel (by omega)]; exact hq2⟩
    have hout : ∀ G, MG.le w.G G → Ent (WP c bw w) (Blk true q2.bs (scells q2.x q2.s) 52 :: StepP c bw q.bs w.a q.x q.s G w.net ++ [NodX q2.x.bo q2.x.a c q2.s, RLd q2.x.lA q2.s.snap (q2.s.log.drop q2.s.snap), seatB c w, Sl (SeatP c) ((w.S.eraseIdx i).eraseIdx j'), Rd false w.a.pA (peersL c)]) := fun G hG => by
      refine (seat_out hq hG).trans ((Picks.ent (a := [Sl (SeatP c) (w.S.eraseIdx i)]) picks).trans ((Sl.out hj').trans ((Ent.star (l := [_, _, _])).trans ?_)))
      exact Picks.sub picks
    have hback : ∀ (a' : WC) (x' : SC) (s' : Nd) (G : MG) (net' : List Rf.Msg), Ent (Blk true q2.bs (scells q2.x q2.s) 52 :: StepP c bw q.bs a' x' s' G net' ++ [NodX q2.x.bo q2.x.a c q2.s, RLd q2.x.lA q2.s.snap (q2.s.log.drop q2.s.snap), seatB c w, Sl (SeatP c) ((w.S.eraseIdx i).eraseIdx j'), Rd false w.a.pA (peersL c)]) (StepP c bw q.bs a' x' s' G net' ++ [seatB c w, Sl (SeatP c) (w.S.eraseIdx i), Rd false w.a.pA (peersL c)]) := fun a' x' s' G net' => by
      refine (Picks.ent (a := [Blk true q2.bs (scells q2.x q2.s) 52, NodX q2.x.bo q2.x.a c q2.s, RLd q2.x.lA q2.s.snap (q2.s.log.drop q2.s.snap), Sl (SeatP c) ((w.S.eraseIdx i).eraseIdx j')]) picks).trans ?_
      refine (Ent.unstar (l := [_, _, _])).trans ((Sl.back (f := SeatP c) hj').trans ?_)
      exact Picks.sub picks
    by_cases hgo : q.x.cm < q2.s.snap ∧ q2.s.tm q2.s.snap ≤ q.s.term ∧ q.x.ro ≠ 4
    · obtain ⟨s', r, G, h1, h2, h3, h4⟩ := h hgo.1 hgo.2.1 hgo.2.2
      refine (((install_w (bw := bw) (bs := q.bs) (b2 := q2.bs) (x2 := q2.x) (s2 := q2.s) hgo.1 hgo.2.1 hgo.2.2 h2 h3).frame (.cons .hd (.cons .hd (.cons .hd (.cons .hd (.cons .hd (.cons .hd (.cons .hd .nil)))))))).mono ?_).pre (hout G h1)
      rintro v L ⟨M, ⟨M', rfl, hi, NA, nc, lA, lc, b1, b2, b3, rfl, rfl⟩, rfl⟩
      exact ⟨_, (hback _ _ _ _ _).trans (seat_back (w := w) (i := i) (q := q) (G := G) (a' := { w.a with hi := hi, NA := NA, nn := (trim w.a.calm (w.net ++ r.ms)).length, nc := nc }) (q' := ⟨q.bs, { q.x with lA := lA, lc := lc, cm := r.commit, mo := max q.x.mo r.commit, ro := r.role, le := r.leader }, s'⟩) (net' := trim w.a.calm (w.net ++ r.ms)) hq rfl ⟨rfl, rfl, rfl⟩), w.step i q w.net G s' r hi NA nc lA lc, h4 hi NA nc lA lc b1 b2 b3, rfl, rfl⟩
    · refine (((install_no (bw := bw) (bs := q.bs) (b2 := q2.bs) (x2 := q2.x) (s2 := q2.s) (c := c) (a := w.a) (x := q.x) (s := q.s) (G := w.G) (net := w.net) (by omega)).frame (.cons .hd (.cons .hd (.cons .hd (.cons .hd (.cons .hd (.cons .hd (.cons .hd .nil)))))))).mono ?_).pre (hout w.G ⟨fun _ _ => rfl, fun _ _ _ => rfl, fun _ _ _ h => h⟩)
      rintro v L ⟨M, ⟨rfl, rfl⟩, rfl⟩
      refine ⟨_, (hback _ _ _ _ _).trans (seat_back (w := w) (i := i) (q := q) (G := w.G) (a' := w.a) (net' := w.net) (q' := q) hq rfl ⟨rfl, rfl, rfl⟩), w, h0, rfl, ?_⟩
      have e : w.S.set i q = w.S := by
        obtain ⟨hi, he⟩ := List.getElem?_eq_some_iff.1 hq
        rw [← he]; exact List.set_getElem_self hi
      rw [e]
def CanM (c : Rf.Cfg) (Φ : WS → Prop) (w : WS) (j : Nat) (ag : Bool) (dr : Int) (m : Rf.Msg) (i : Nat) (q : ST) : Prop :=
  ∃ s' r G, MG.le w.G G ∧ EvGo c q.s (evM m dr) [] s' r 0 ∧ StIn (evM m dr) w.a q.x q.s G w.net s' r ∧ Keeps Φ w i q (netOf ag j w.net) G s' r
theorem ari_of {j : Nat} {m : Rf.Msg} (hj : w.net[j]? = some m) (hds : 1 ≤ m.dst ∧ m.dst ≤ c.n) (hcn : c.n ≤ 5) (hSl : w.S.length = c.n) (hq : w.S[m.dst - 1]? = some q) (hme : m.es.length ≤ 16) (hmd : ∀ z ∈ m.es, z.data.length ≤ 140737488351232) (hnn : w.a.nn = w.net.length) (hnl : w.net.length ≤ 100000) : Ari c q.bs w.a w.net (w.S.map (·.bs)) m j :=
  ⟨hnn, hnl, hj, by rw [List.getElem?_map, hq]; rfl, by rw [List.length_map, hSl], hcn, hds, hme, hmd⟩
theorem arrive_w {j : Nat} {ag : Bool} {dr : Int} {m : Rf.Msg} (K : Ari c q.bs w.a w.net (w.S.map (·.bs)) m j) (hq : w.S[m.dst - 1]? = some q) (h : CanM c Φ w j ag dr m (m.dst - 1) q) :
    Fn Tryz.prog 25 [pt bw, nv j, iv dr, .bool ag].toArray (WP c bw w) (Goes c bw Φ (.bool true)) := by
  obtain ⟨s', r, G, h1, h2, ⟨⟨dB, h3⟩, h5, h6, h7, h8, h9⟩, h4⟩ := h
  have hA := arrive_n (bw := bw) (bs := q.bs) (a := w.a) (x := q.x) (G := G) (net := w.net) (ps := w.S.map (·.bs)) (ag := ag) h2 h3 h5 h6 h7 K
  refine ((hA.frame (L := [Blk true bw (wcells c w.a) 43, seatB c w, Blk true q.bs (scells q.x q.s) 52, NodX q.x.bo q.x.a c q.s, RLd q.x.lA q.s.snap (q.s.log.drop q.s.snap), MapsP G w.a.mL w.a.mV w.a.mK w.a.mT, NetP w.a.NA w.a.nn w.a.nc w.net] ++ [Sl (SeatP c) (w.S.eraseIdx (m.dst - 1)), Rd false w.a.pA (peersL c)]) (.cons .hd (.cons .hd (.cons .hd (.cons .hd (.cons .hd (.cons .hd (.cons .hd .nil)))))))).mono ?_).pre ((seat_out hq h1).trans (Picks.sub picks))
  rintro v L ⟨M, ⟨hi, NA, nc, lA, lc, b1, b2, b3, rfl, rfl⟩, rfl⟩
  refine ⟨_, ?_, w.step (m.dst - 1) q (netOf ag j w.net) G s' r hi NA nc lA lc, h4 hi NA nc lA lc b1 b2 b3, rfl, rfl⟩
  refine Ent.trans ?_ (seat_back (w := w) (i := m.dst - 1) (q := q) (G := G) (a' := { w.a with hi := hi, NA := NA, nn := (trim w.a.calm (netOf ag j w.net ++ r.ms)).length, nc := nc }) (q' := ⟨q.bs, { q.x with lA := lA, lc := lc, cm := r.commit, mo := max q.x.mo r.commit, ro := r.role, le := r.leader }, s'⟩) (net' := trim w.a.calm (netOf ag j w.net ++ r.ms)) hq rfl ⟨rfl, rfl, rfl⟩)
  unfold seatB
  exact Picks.sub picks
theorem arrive_we {j err : Nat} {ag : Bool} {dr : Int} {m : Rf.Msg} (K : Ari c q.bs w.a w.net (w.S.map (·.bs)) m j) (hq : w.S[m.dst - 1]? = some q) (hE : EvGo c q.s (evM m dr) [] q.s {} (err : Nat)) (h0 : err ≠ 0) (h : ∀ NA nc, Φ ⟨{ w.a with NA := NA, nn := (netOf ag j w.net).length, nc := nc }, w.S, netOf ag j w.net, w.G⟩) :
    Fn Tryz.prog 25 [pt bw, nv j, iv dr, .bool ag].toArray (WP c bw w) (Goes c bw Φ (.bool true)) := by
  have hA := arrive_e (bw := bw) (bs := q.bs) (a := w.a) (x := q.x) (G := w.G) (net := w.net) (ps := w.S.map (·.bs)) (ag := ag) hE h0 K
  refine ((hA.frame (L := [Blk true bw (wcells c w.a) 43, seatB c w, Blk true q.bs (scells q.x q.s) 52, NodX q.x.bo q.x.a c q.s, RLd q.x.lA q.s.snap (q.s.log.drop q.s.snap), MapsP w.G w.a.mL w.a.mV w.a.mK w.a.mT, NetP w.a.NA w.a.nn w.a.nc w.net] ++ [Sl (SeatP c) (w.S.eraseIdx (m.dst - 1)), Rd false w.a.pA (peersL c)]) (.cons .hd (.cons .hd (.cons .hd (.cons .hd (.cons .hd (.cons .hd (.cons .hd .nil)))))))).mono ?_).pre ((seat_out hq ⟨fun _ _ => rfl, fun _ _ _ => rfl, fun _ _ _ h => h⟩).trans (Picks.sub picks))
  rintro v L ⟨M, ⟨NA, nc, rfl, rfl⟩, rfl⟩
  have e : w.S.set (m.dst - 1) q = w.S := by
    obtain ⟨hi, he⟩ := List.getElem?_eq_some_iff.1 hq
    rw [← he]; exact List.set_getElem_self hi
  refine ⟨_, ?_, _, h NA nc, rfl, rfl⟩
  have hb := seat_back (w := w) (i := m.dst - 1) (q := q) (G := w.G) (c := c) (bw := bw) (a' := { w.a with NA := NA, nn := (netOf ag j w.net).length, nc := nc }) (q' := q) (net' := netOf ag j w.net) hq rfl ⟨rfl, rfl, rfl⟩
  rw [e] at hb
  refine Ent.trans ?_ hb
  unfold seatB
  exact Picks.sub picks
theorem crash_w {k dr : Int} (hq : w.S[i]? = some q) (hbo : q.x.bo = true) (hid : q.x.id = q.s.id) (hcm : q.x.cm ≤ 1000000) (hc : CfgOk c) (hs : Sn c (reb q.s (cmOf k q.s q.x.cm))) (hst : StOk c (reb q.s (cmOf k q.s q.x.cm))) (hd : ∀ x ∈ q.s.log, x.data.length ≤ 140737488351232)
    (hK : ∀ p, Φ ⟨w.a, w.S.set i ⟨q.bs, ⟨true, p, q.s.id, q.x.lA, q.x.lc, cmOf k q.s q.x.cm, q.x.mo, 1, 0⟩, Rs.rest c dr (reb q.s (cmOf k q.s q.x.cm))⟩, w.net, w.G⟩) :
    Fn Tryz.prog 19 [pt bw, pt q.bs, iv k, iv dr].toArray (WP c bw w) (Goes c bw Φ (.bool true)) := by
  have hC := crash_n (bw := bw) (bs := q.bs) (a := w.a) (dr := dr) hbo hid hcm hc hs hst hd
  refine ((hC.frame (L := [Blk true bw (wcells c w.a) 43, Blk true q.bs (scells q.x q.s) 52, RLd q.x.lA q.s.snap (q.s.log.drop q.s.snap), Rd false w.a.pA (peersL c)] ++ [seatB c w, MapsP w.G w.a.mL w.a.mV w.a.mK w.a.mT, NetP w.a.NA w.a.nn w.a.nc w.net, Sl (SeatP c) (w.S.eraseIdx i)]) (.cons .hd (.cons .hd (.cons .hd (.cons .hd .nil))))).mono ?_).pre ((seat_out hq ⟨fun _ _ => rfl, fun _ _ _ => rfl, fun _ _ _ h => h⟩).trans (Picks.sub picks))
  rintro v L ⟨M, ⟨p, rfl, rfl⟩, rfl⟩
  refine ⟨_, ?_, _, hK p, rfl, rfl⟩
  refine Ent.trans ?_ (seat_back (w := w) (i := i) (q := q) (G := w.G) (a' := w.a) (q' := ⟨q.bs, ⟨true, p, q.s.id, q.x.lA, q.x.lc, cmOf k q.s q.x.cm, q.x.mo, 1, 0⟩, Rs.rest c dr (reb q.s (cmOf k q.s q.x.cm))⟩) (net' := w.net) hq rfl ⟨rfl, rfl, rfl⟩)
  exact Picks.sub picks
end
end Go.SL
namespace Go.SL
open Go.Proofs Go.Proofs.YtocogcgnahbpkaaGreat
open Rs (Nd)
set_option maxRecDepth 10000
structure AV where
  kind : Int
  node : Int
  n : Int
  draw : Int
  dA : Option Addr
  dn : Nat
  dc : Nat
  ag : Bool
abbrev encA (e : AV) : List Value := [iv e.kind, iv e.node, iv e.n, iv e.draw, .slice e.dA e.dn e.dc, .bool e.ag]
attribute [local irreducible] W RS RG RT RD Fn FnQ OpS QOp Own Sat Rd Gr Mp Rg Lg Ms Es Nod Rp NodI RLg RMs REs RN RLd RNF EsD MsD NBk BkP BkRd BothI MapsP KnD NetP
section
variable {c : Rf.Cfg} {bw : Nat} {w : WS} {q : ST} {Φ : WS → Prop} {G : MG} {v0 : Value} {e : AV}
theorem act_tick (hn : 1 ≤ c.n ∧ c.n ≤ 5) (hl : w.S.length = c.n) (hk : e.kind = 1) (hq : w.S[wholeN e.node 0 (c.n - 1)]? = some q) (h : Can c Φ w (wholeN e.node 0 (c.n - 1)) q (evT e.draw) []) :
    Fn Tryz.prog 10 [pt bw, .agg (encA e).toArray].toArray (WP c bw w) (Goes c bw Φ (.bool true)) := by
  have hS := seat_q (bw := bw) (a := w.a) (ps := w.S.map (·.bs)) (i := e.node) hn (by rw [List.length_map, hl]) (p := q.bs) (by rw [List.getElem?_map, hq]; rfl)
  refine Fn.enter Tryz.func10 rfl (by kernel_rfl) rfl ?_
  refine run ?_
  refine .box fun z3 => ?_
  refine run ?_
  refine .callQ hS ?_
  refine run ?_
  refine .callE (can_n hq ⟨rfl, rfl, rfl, rfl⟩ h) ?_
  rintro v L ⟨w', h0, rfl, rfl⟩
  refine run ?_
  exact .retE Tryz.func10 ⟨w', h0, rfl, rfl⟩
theorem act_compact (hn : 1 ≤ c.n ∧ c.n ≤ 5) (hl : w.S.length = c.n) (hk : e.kind = 5) (hq : w.S[wholeN e.node 0 (c.n - 1)]? = some q) (hb : q.x.cm ≤ 1000000) (h : q.s.snap < q.x.cm → Can c Φ w (wholeN e.node 0 (c.n - 1)) q (evC (wholeN e.n (q.s.snap + 1) q.x.cm)) []) (h0 : Φ w) :
    Fn Tryz.prog 10 [pt bw, .agg (encA e).toArray].toArray (WP c bw w) (Goes c bw Φ (.bool true)) := by
  have hS := seat_q (bw := bw) (a := w.a) (ps := w.S.map (·.bs)) (i := e.node) hn (by rw [List.length_map, hl]) (p := q.bs) (by rw [List.getElem?_map, hq]; rfl)
  refine Fn.enter Tryz.func10 rfl (by kernel_rfl) rfl ?_
  refine run ?_
  refine .box fun z3 => ?_
  refine run ?_
  refine .callQ hS ?_
  refine run ?_
  refine .callE (compact_n hq hb h h0) ?_
  rintro v L ⟨w', h0, rfl, rfl⟩
  refine run ?_
  exact .retE Tryz.func10 ⟨w', h0, rfl, rfl⟩
theorem act_crash (hn : 1 ≤ c.n ∧ c.n ≤ 5) (hl : w.S.length = c.n) (hk : e.kind = 7) (hq : w.S[wholeN e.node 0 (c.n - 1)]? = some q) (h : Fn Tryz.prog 19 [pt bw, pt q.bs, iv e.n, iv e.draw].toArray (WP c bw w) (Goes c bw Φ (.bool true))) :
    Fn Tryz.prog 10 [pt bw, .agg (encA e).toArray].toArray (WP c bw w) (Goes c bw Φ (.bool true)) := by
  have hS := seat_q (bw := bw) (a := w.a) (ps := w.S.map (·.bs)) (i := e.node) hn (by rw [List.length_map, hl]) (p := q.bs) (by rw [List.getElem?_map, hq]; rfl)
  refine Fn.enter Tryz.func10 rfl (by kernel_rfl) rfl ?_
  refine run ?_
  refine .box fun z3 => ?_
  refine run ?_
  refine .callQ hS ?_
  refine run ?_
  refine .callE h ?_
  rintro v L ⟨w', h0, rfl, rfl⟩
  refine run ?_
  exact .retE Tryz.func10 ⟨w', h0, rfl, rfl⟩
theorem act_install {qb : ST} (hn : 1 ≤ c.n ∧ c.n ≤ 5) (hl : w.S.length = c.n) (hk : e.kind = 8) (hq : w.S[wholeN e.node 0 (c.n - 1)]? = some q) (hq2 : w.S[wholeN e.n 0 (c.n - 1)]? = some qb) (hsn : q.s.snap ≤ q.x.cm) (h : q.x.cm < qb.s.snap → qb.s.tm qb.s.snap ≤ q.s.term → q.x.ro ≠ 4 → Can c Φ w (wholeN e.node 0 (c.n - 1)) q (evI qb.s.snap (qb.s.tm qb.s.snap)) []) (h0 : Φ w) :
    Fn Tryz.prog 10 [pt bw, .agg (encA e).toArray].toArray (WP c bw w) (Goes c bw Φ (.bool true)) := by
  have hS := seat_q (bw := bw) (a := w.a) (ps := w.S.map (·.bs)) (i := e.node) hn (by rw [List.length_map, hl]) (p := q.bs) (by rw [List.getElem?_map, hq]; rfl)
  have hS2 := seat_q (bw := bw) (a := w.a) (ps := w.S.map (·.bs)) (i := e.n) hn (by rw [List.length_map, hl]) (p := qb.bs) (by rw [List.getElem?_map, hq2]; rfl)
  have hI := install_n (bw := bw) hq hq2 hsn h h0
  clear h
  refine Fn.enter Tryz.func10 rfl (by kernel_rfl) rfl ?_
  refine run ?_
  refine .box fun z3 => ?_
  refine run ?_
  refine .callQ hS ?_
  refine run ?_
  refine .callQ hS2 ?_
  refine run ?_
  refine .callE hI ?_
  rintro v L ⟨w', h0, rfl, rfl⟩
  refine run ?_
  exact .retE Tryz.func10 ⟨w', h0, rfl, rfl⟩
theorem act_none (hn : 1 ≤ c.n ∧ c.n ≤ 5) (hl : w.S.length = c.n) (hk : e.kind < 1 ∨ 10 < e.kind) (hq : w.S[wholeN e.node 0 (c.n - 1)]? = some q) (h0 : Φ w) :
    Fn Tryz.prog 10 [pt bw, .agg (encA e).toArray].toArray (WP c bw w) (Goes c bw Φ (.bool true)) := by
  have hS := seat_q (bw := bw) (a := w.a) (ps := w.S.map (·.bs)) (i := e.node) hn (by rw [List.length_map, hl]) (p := q.bs) (by rw [List.getElem?_map, hq]; rfl)
  refine Fn.enter Tryz.func10 rfl (by kernel_rfl) rfl ?_
  refine run ?_
  refine .box fun z3 => ?_
  refine run ?_
  refine .callQ hS ?_
  refine run ?_
  exact .retE Tryz.func10 ⟨w, h0, rfl, rfl⟩
theorem act_drop (hn : 1 ≤ c.n ∧ c.n ≤ 5) (hl : w.S.length = c.n) (hk : e.kind = 2 ∨ e.kind = 3) (hq : w.S[wholeN e.node 0 (c.n - 1)]? = some q) (hnn : w.a.nn = w.net.length) (hnet : w.net = []) (h0 : Φ w) :
    Fn Tryz.prog 10 [pt bw, .agg (encA e).toArray].toArray (WP c bw w) (Goes c bw Φ (.bool true)) := by
  have hS := seat_q (bw := bw) (a := w.a) (ps := w.S.map (·.bs)) (i := e.node) hn (by rw [List.length_map, hl]) (p := q.bs) (by rw [List.getElem?_map, hq]; rfl)
  have hn0 : w.a.nn = 0 := by rw [hnn, hnet]; rfl
  refine Fn.enter Tryz.func10 rfl (by kernel_rfl) rfl ?_
  refine run ?_
  refine .box fun z3 => ?_
  refine run ?_
  refine .callQ hS ?_
  rcases hk with hk | hk
  all_goals
    refine run ?_
    exact .retE Tryz.func10 ⟨w, h0, rfl, rfl⟩
theorem act_handOver {qb : ST} (hn : 1 ≤ c.n ∧ c.n ≤ 5) (hl : w.S.length = c.n) (hk : e.kind = 6) (hq : w.S[wholeN e.node 0 (c.n - 1)]? = some q) (hq2 : w.S[wholeN e.n 0 (c.n - 1)]? = some qb)
    (h : Can c Φ w (wholeN e.node 0 (c.n - 1)) q (evH qb.x.id) [] ∨ ∃ err : Nat, err ≠ 0 ∧ EvGo c q.s (evH qb.x.id) [] q.s {} (err : Nat)) (h0 : Φ w) :
    Fn Tryz.prog 10 [pt bw, .agg (encA e).toArray].toArray (WP c bw w) (Goes c bw Φ (.bool true)) := by
  have hS := seat_q (bw := bw) (a := w.a) (ps := w.S.map (·.bs)) (i := e.node) hn (by rw [List.length_map, hl]) (p := q.bs) (by rw [List.getElem?_map, hq]; rfl)
  have hS2 := seat_q (bw := bw) (a := w.a) (ps := w.S.map (·.bs)) (i := e.n) hn (by rw [List.length_map, hl]) (p := qb.bs) (by rw [List.getElem?_map, hq2]; rfl)
  refine Fn.enter Tryz.func10 rfl (by kernel_rfl) rfl ?_
  refine run ?_
  refine .box fun z3 => ?_
  refine run ?_
  refine .callQ hS ?_
  refine run ?_
  refine .callQ hS2 ?_
  refine .ent ((Picks.ent (a := [Sl (SeatP c) w.S]) picks).trans ((Sl.out hq2).trans (Ent.star (l := [_, _, _])))) ?_
  refine run ?_
  refine .ent ((Picks.ent (a := [Blk true qb.bs (scells qb.x qb.s) 52, NodX qb.x.bo qb.x.a c qb.s, RLd qb.x.lA qb.s.snap (qb.s.log.drop qb.s.snap), Sl (SeatP c) (w.S.eraseIdx (wholeN e.n 0 (c.n - 1)))]) picks).trans ((Ent.unstar (l := [_, _, _])).trans (Sl.back (f := SeatP c) hq2))) ?_
  rcases h with h | ⟨err, he, h⟩
  · refine .callE (can_n (bw := bw) (e := evH qb.x.id) hq ⟨rfl, rfl, rfl, rfl⟩ h) ?_
    rintro v L ⟨w', h0, rfl, rfl⟩
    refine run ?_
    exact .retE Tryz.func10 ⟨w', h0, rfl, rfl⟩
  · refine .callE (cannot_n (bw := bw) (e := evH qb.x.id) hq ⟨rfl, rfl, rfl, rfl⟩ he h) ?_
    rintro v L ⟨rfl, rfl⟩
    refine run ?_
    exact .retE Tryz.func10 ⟨w, h0, rfl, rfl⟩
theorem act_far {qb : ST} (hn : 1 ≤ c.n ∧ c.n ≤ 5) (hl : w.S.length = c.n) (hk : e.kind = 10) (hq : w.S[wholeN e.node 0 (c.n - 1)]? = some q) (hq2 : w.S[wholeN e.n 0 (c.n - 1)]? = some qb)
    (h : Can c Φ w (wholeN e.node 0 (c.n - 1)) q (evU qb.x.id) [] ∨ ∃ err : Nat, err ≠ 0 ∧ EvGo c q.s (evU qb.x.id) [] q.s {} (err : Nat)) (h0 : Φ w) :
    Fn Tryz.prog 10 [pt bw, .agg (encA e).toArray].toArray (WP c bw w) (Goes c bw Φ (.bool true)) := by
  have hS := seat_q (bw := bw) (a := w.a) (ps := w.S.map (·.bs)) (i := e.node) hn (by rw [List.length_map, hl]) (p := q.bs) (by rw [List.getElem?_map, hq]; rfl)
  have hS2 := seat_q (bw := bw) (a := w.a) (ps := w.S.map (·.bs)) (i := e.n) hn (by rw [List.length_map, hl]) (p := qb.bs) (by rw [List.getElem?_map, hq2]; rfl)
  refine Fn.enter Tryz.func10 rfl (by kernel_rfl) rfl ?_
  refine run ?_
  refine .box fun z3 => ?_
  refine run ?_
  refine .callQ hS ?_
  refine run ?_
  refine .callQ hS2 ?_
  refine .ent ((Picks.ent (a := [Sl (SeatP c) w.S]) picks).trans ((Sl.out hq2).trans (Ent.star (l := [_, _, _])))) ?_
  refine run ?_
  refine .ent ((Picks.ent (a := [Blk true qb.bs (scells qb.x qb.s) 52, NodX qb.x.bo qb.x.a c qb.s, RLd qb.x.lA qb.s.snap (qb.s.log.drop qb.s.snap), Sl (SeatP c) (w.S.eraseIdx (wholeN e.n 0 (c.n - 1)))]) picks).trans ((Ent.unstar (l := [_, _, _])).trans (Sl.back (f := SeatP c) hq2))) ?_
  rcases h with h | ⟨err, he, h⟩
  · refine .callE (can_n (bw := bw) (e := evU qb.x.id) hq ⟨rfl, rfl, rfl, rfl⟩ h) ?_
    rintro v L ⟨w', h0, rfl, rfl⟩
    refine run ?_
    exact .retE Tryz.func10 ⟨w', h0, rfl, rfl⟩
  · refine .callE (cannot_n (bw := bw) (e := evU qb.x.id) hq ⟨rfl, rfl, rfl, rfl⟩ he h) ?_
    rintro v L ⟨rfl, rfl⟩
    refine run ?_
    exact .retE Tryz.func10 ⟨w, h0, rfl, rfl⟩
theorem act_arrive (hn : 1 ≤ c.n ∧ c.n ≤ 5) (hl : w.S.length = c.n) (hk : e.kind = 2) (hq : w.S[wholeN e.node 0 (c.n - 1)]? = some q) (hn1 : 1 ≤ w.a.nn ∧ w.a.nn ≤ 100000)
    (h : Fn Tryz.prog 25 [pt bw, nv (wholeN e.n 0 (w.a.nn - 1)), iv e.draw, .bool e.ag].toArray (WP c bw w) (Goes c bw Φ (.bool true))) :
    Fn Tryz.prog 10 [pt bw, .agg (encA e).toArray].toArray (WP c bw w) (Goes c bw Φ (.bool true)) := by
  have hS := seat_q (bw := bw) (a := w.a) (ps := w.S.map (·.bs)) (i := e.node) hn (by rw [List.length_map, hl]) (p := q.bs) (by rw [List.getElem?_map, hq]; rfl)
  refine Fn.enter Tryz.func10 rfl (by kernel_rfl) rfl ?_
  refine run ?_
  refine .box fun z3 => ?_
  refine run ?_
  refine .callQ hS ?_
  refine run ?_
  refine W.plan [8] mixed (by rfl) (by kernel_rfl) ?_
  refine run ?_
  refine RG.hit 46 rfl (by congr 1; omega : _ = nv (w.a.nn - 1)) ?_
  refine .callQ (whole_q (lo := 0) (hi := w.a.nn - 1) (n := e.n) (Nat.zero_le _) (by omega)) ?_
  refine run ?_
  refine .callE h ?_
  rintro v L ⟨w', h0, rfl, rfl⟩
  refine run ?_
  exact .retE Tryz.func10 ⟨w', h0, rfl, rfl⟩
theorem act_lose (hn : 1 ≤ c.n ∧ c.n ≤ 5) (hl : w.S.length = c.n) (hk : e.kind = 3) (hq : w.S[wholeN e.node 0 (c.n - 1)]? = some q) (hn1 : 1 ≤ w.a.nn ∧ w.a.nn ≤ 100000) (hnn : w.a.nn = w.net.length)
    (h : ∀ NA nc, Φ ⟨{ w.a with NA := NA, nn := (w.net.eraseIdx (wholeN e.n 0 (w.a.nn - 1))).length, nc := nc }, w.S, w.net.eraseIdx (wholeN e.n 0 (w.a.nn - 1)), w.G⟩) :
    Fn Tryz.prog 10 [pt bw, .agg (encA e).toArray].toArray (WP c bw w) (Goes c bw Φ (.bool true)) := by
  have hS := seat_q (bw := bw) (a := w.a) (ps := w.S.map (·.bs)) (i := e.node) hn (by rw [List.length_map, hl]) (p := q.bs) (by rw [List.getElem?_map, hq]; rfl)
  have hjn := (wholeN_in e.n (lo := 0) (hi := w.a.nn - 1) (Nat.zero_le _)).2
  refine Fn.enter Tryz.func10 rfl (by kernel_rfl) rfl ?_
  refine .first (NetP w.a.NA w.a.nn w.a.nc w.net) ?_
  refine .net fun ys hys => ?_
  have hyl : ys.length = w.net.length := by rw [← hys, List.length_map]
  refine W.fact (fun w h => Gr.cap h) fun hcap => ?_
  refine run ?_
  refine .box fun z3 => ?_
  refine run ?_
  refine .callQ hS ?_
  refine run ?_
  refine W.plan [8] mixed (by rfl) (by kernel_rfl) ?_
  refine run ?_
  refine RG.hit 46 rfl (by congr 1; omega : _ = nv (w.a.nn - 1)) ?_
  refine .callQ (whole_q (lo := 0) (hi := w.a.nn - 1) (n := e.n) (Nat.zero_le _) (by omega)) ?_
  generalize hj : wholeN e.n 0 (w.a.nn - 1) = j at *
  refine run ?_
  have hjl : j < w.net.length := by omega
  have hfr : ys.flatMap encL = (ys.take j).flatMap encL ++ (ys.drop j).flatMap encL := by rw [← List.flatMap_append, List.take_append_drop]
  have hX1 : Reads (Gr 10 59 w.a.NA w.a.nn w.a.nc (ys.flatMap encL)) w.a.NA ((ys.take j).flatMap encL) := by rw [hfr]; exact Gr.reads
  have hX2 : Reads (Gr 10 59 w.a.NA w.a.nn w.a.nc (ys.flatMap encL)) (if w.a.nc = j + 1 then w.a.NA else adr w.a.NA ((j + 1) * 10)) ((ys.drop (j + 1)).flatMap encL) := fun r h => dropRdM (j + 1) w.a.nc h.rd.lend (by omega) (by omega)
  refine .quiet rfl rfl rfl (Q.sliceTo (hi := j) rfl rfl rfl rfl rfl rfl (by omega)) ?_
  refine .ent (Picks.ent (a := [Gr 10 59 w.a.NA w.a.nn w.a.nc (ys.flatMap encL)]) picks) ?_
  refine .ent (Ent.mk (X := Gr 10 59 none 0 0 []) fun r => .nil) ?_
  refine .push (sz := 10) (nn := 0) (m := j) (Src.pick rfl rfl .hd hX1 (by rw [flat_len lenLM, List.length_take]; congr 1; omega) rfl (oneLM _)) fun A2 c2 => ?_
  simp only [Nat.zero_add, List.nil_append]
  refine run ?_
  refine .quiet rfl rfl rfl (Q.sliceFrom (lo := j + 1) rfl rfl rfl rfl rfl rfl (by omega)) ?_
  refine .push (sz := 10) (nn := j) (m := w.a.nn - (j + 1)) (Src.pick rfl rfl .hd hX2 (by rw [flat_len lenLM, List.length_drop, hyl, ← hnn]) rfl (oneLM _)) fun A3 c3 => ?_
  have hnj : j + (w.a.nn - (j + 1)) = (w.net.eraseIdx j).length := by rw [List.length_eraseIdx, if_pos hjl]; omega
  have hfe : (ys.take j).flatMap encL ++ (ys.drop (j + 1)).flatMap encL = (ys.eraseIdx j).flatMap encL := by rw [List.eraseIdx_eq_take_drop_succ, List.flatMap_append]
  rw [hnj, hfe]
  refine run ?_
  refine .ent ((Picks.ent (a := [EsD ys]) picks).trans (.of (Y := EsD (ys.eraseIdx j)) fun r h => by unfold EsD at *; exact fun y hy => h y (List.mem_of_mem_eraseIdx hy))) ?_
  refine .ent ((Picks.ent (a := [Gr 10 59 A3 (w.net.eraseIdx j).length c3 ((ys.eraseIdx j).flatMap encL), EsD (ys.eraseIdx j)]) picks).trans (NetP.close (ms := w.net.eraseIdx j) (by rw [List.eraseIdx_eq_take_drop_succ, List.eraseIdx_eq_take_drop_succ, List.map_append, List.map_take, List.map_drop, hys]))) ?_
  exact .retE Tryz.func10 ⟨_, h A3 c3, rfl, rfl⟩
theorem Q.addW {P : Program} {n : Nat} {e : Env} {S : List HP} {o : Oper} {x y : Operand} {t t' : Nat} {a b : Int} (ho : o.op = .binOp .add t x y t') (hx : ev e x = some (.int .i64 a)) (hy : ev e y = some (.int .i64 b)) : QOp P n e S o (.int .i64 (IntKind.i64.wrap (a + b))) :=
  Q.bin ho hx hy eqg_int fun w => by simp [binOp, Op.intArith]
theorem act_many {Ψ : Nat → WS → Prop} (hn : 1 ≤ c.n ∧ c.n ≤ 5) (hl : w.S.length = c.n) (hk : e.kind = 9) (hq : w.S[wholeN e.node 0 (c.n - 1)]? = some q) (hn1 : w.a.nn ≤ 100000)
    (hstep : ∀ (k : Nat) (w' : WS) (dr : Int), Ψ k w' → 0 < w'.a.nn → Fn Tryz.prog 25 [pt bw, nv 0, iv dr, .bool false].toArray (WP c bw w') (Goes c bw (Ψ (k + 1)) (.bool true))) (h0 : Ψ 0 w) :
    Fn Tryz.prog 10 [pt bw, .agg (encA e).toArray].toArray (WP c bw w) (Goes c bw (fun w' => ∃ k, k ≤ w.a.nn ∧ Ψ k w') (.bool true)) := by
  have hS := seat_q (bw := bw) (a := w.a) (ps := w.S.map (·.bs)) (i := e.node) hn (by rw [List.length_map, hl]) (p := q.bs) (by rw [List.getElem?_map, hq]; rfl)
  refine Fn.enter Tryz.func10 rfl (by kernel_rfl) rfl ?_
  refine run ?_
  refine .box fun z3 => ?_
  refine run ?_
  refine .callQ hS ?_
  refine run ?_
  refine W.loopH (ι := Nat × WS) (fun i => i.1 ≤ w.a.nn ∧ Ψ i.1 i.2) (fun i => [(0, pt bw), (3, pt z3), (6, .bool true), (11, nv w.a.nn), (12, nv i.1)]) (fun i => Blk true z3 (encA e) 31 :: WP c bw i.2) (fun i => w.a.nn - i.1) (0, w) ⟨Nat.zero_le _, h0⟩ subs (by exact Picks.sub picks) ?_
  rintro ⟨k, w'⟩ ⟨hk2, hP⟩ ih
  dsimp only at hk2 hP ih ⊢
  by_cases h1 : k < w.a.nn
  · by_cases h2 : 0 < w'.a.nn
    · have hst := hstep k w' (IntKind.i64.wrap (e.draw + k)) hP h2
      refine run ?_
      refine .quiet rfl rfl rfl (Q.addW rfl rfl rfl) ?_
      refine .callE hst ?_
      rintro v L ⟨w2, h5, rfl, rfl⟩
      refine run ?_
      exact .back (ih (k + 1, w2) ⟨by dsimp only; omega, h5⟩ (by dsimp only; omega))
    · refine run ?_
      exact .retE Tryz.func10 ⟨w', ⟨k, hk2, hP⟩, rfl, rfl⟩
  · refine run ?_
    exact .retE Tryz.func10 ⟨w', ⟨k, hk2, hP⟩, rfl, rfl⟩
end
end Go.SL
