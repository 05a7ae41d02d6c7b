/-
  A part of the proof of what E53 says at its head.
-/
import Derived.Test.YtocogcgnahbpkaaGreatE39
namespace Go.SL
open Go.Proofs Go.Proofs.YtocogcgnahbpkaaGreat
open Rs (Nd)
set_option maxRecDepth 10000
def NodX (bo : Bool) (p : Nat) (c : Rf.Cfg) (s : Nd) : HP := bif bo then BothI p c s else NodI p c s
structure EvIn (e : EV) (data : List (List Int)) (X D : HP) : Prop where
  go : ∃ (mes : List LE) (lbs : List LB), Reads X e.A (mes.flatMap encLE) ∧ Reads X e.dA (lbs.map vB) ∧ DRead D mes ∧ DReadB D lbs ∧ mes.map (·.e) = ents e.m.idx e.m.es ∧ lbs.map (·.data) = data ∧
    e.dn = lbs.length ∧ mes.length ≤ e.c ∧ mes.length ≤ 64 ∧ lbs.length * 24 ≤ 140737488351232 ∧ (∀ x ∈ mes, x.e.data.length ≤ 140737488351232) ∧ (∀ x ∈ lbs, x.data.length ≤ 140737488351232)
attribute [local irreducible] W RS RG RT RD Fn FnQ OpS QOp Own Sat Rd Gr Mp Rg Lg Ms Es Nod Rp NodI RLg RMs REs RN RLd RNF EsD MsD NBk BkP BkRd BothI MapsP KnD NetP
section
variable {c : Rf.Cfg} {bw bs : Nat} {a : WC} {x : SC} {s d dB s' : Nd} {G : MG} {e : EV} {r : Rdy} {data : List (List Int)} {net : List Rf.Msg} {err : Int} {X D : HP}
theorem wstep_n (hE : EvGo c s e data s' r 0) (hI : EvIn e data X D) (H : DoneOk e r d dB s') (hr : r.Ok) (T : TelOk G x s' r a.hi) (hlc : d.log.length - d.snap ≤ x.lc) (hnn : a.nn = net.length) (hnl : net.length ≤ 100000) :
    Fn Tryz.prog 15 [pt bw, pt bs, .agg (encV e).toArray].toArray
    [Blk true bw (wcells c a) 43, Blk true bs (scells x d) 52, NodX x.bo x.a c s, RLd x.lA d.snap (d.log.drop d.snap), MapsP G a.mL a.mV a.mK a.mT, NetP a.NA a.nn a.nc net, X, D]
    (fun v L => ∃ hi NA nc lA lc, a.hi ≤ hi ∧ hi ≤ max a.hi r.commit ∧ s'.log.length - s'.snap ≤ lc ∧ v = .tuple #[iv 0, .bool true] ∧
      L = [Blk true bw (wcells c { a with hi := hi, NA := NA, nn := (trim a.calm (net ++ r.ms)).length, nc := nc }) 43, Blk true bs (scells { x with lA := lA, lc := lc, cm := r.commit, mo := max x.mo r.commit, ro := r.role, le := r.leader } s') 52, NodX x.bo x.a c s', RLd lA s'.snap (s'.log.drop s'.snap), MapsP G a.mL a.mV a.mK a.mT, NetP NA (trim a.calm (net ++ r.ms)).length nc (trim a.calm (net ++ r.ms)), X, D]) := by
  obtain ⟨mes, lbs, i1, i2, i3, i4, i5, i6, i7, i8, i9, i10, i11, i12⟩ := hI.go
  refine Fn.enter Tryz.func15 rfl (by kernel_rfl) rfl ?_
  cases hbo : x.bo with
  | true =>
    have hN := nstep_n (b := x.a) hE hr i1 i2 i3 i4 i5 i6 i7 i8 i9 i10 i11 i12 H.datm H.date
    have hcl : scells x d = [nv x.id, .pointer none, pt x.a, nv d.term, nv d.vote, nv d.snap, nv (d.tm d.snap), .slice x.lA (d.log.length - d.snap) x.lc, nv x.cm, nv x.mo, nv x.ro, nv x.le] := by
      unfold scells ptIf; rw [hbo]; rfl
    rw [hcl, show NodX true x.a c s = BothI x.a c s from rfl, show NodX true x.a c s' = BothI x.a c s' from rfl]
    refine run ?_
    refine .box fun z5 => ?_
    refine run ?_
    refine .new fun z8 => ?_
    refine run ?_
    refine .quiet rfl rfl rfl (Q.neNilP rfl rfl rfl rfl rfl) ?_
    refine run ?_
    refine W.plan [] mixed (by rfl) (by kernel_rfl) ?_
    refine run ?_
    refine .two ?g1 ?g2
    case' g1 =>
      refine .callE hN ?_
      rintro v L ⟨EA, ec, MA, mc, SA, sc, rfl, rfl⟩
      refine run ?_
      refine .new fun z10 => ?_
    case' g2 =>
      refine .new fun z10 => ?_
      refine .callE hN ?_
      rintro v L ⟨EA, ec, MA, mc, SA, sc, rfl, rfl⟩
    all_goals
      refine run ?_
      rw [← hcl]
      refine .callE (done_t H hr T hlc hnn hnl) ?_
      rintro v L ⟨hi, NA, nc, lA, lc, b1, b2, b3, rfl, rfl⟩
      rw [hbo]
      refine run ?_
      exact .retE Tryz.func15 ⟨hi, NA, nc, lA, lc, b1, b2, b3, rfl, rfl⟩
  | false =>
    have hN := (hE e.A e.dA e.c e.dc X D mes lbs i1 i2 i3 i4 i5 i6 i8).1 x.a
    rw [← i7] at hN
    have hcl : scells x d = [nv x.id, pt x.a, .pointer none, nv d.term, nv d.vote, nv d.snap, nv (d.tm d.snap), .slice x.lA (d.log.length - d.snap) x.lc, nv x.cm, nv x.mo, nv x.ro, nv x.le] := by
      unfold scells ptIf; rw [hbo]; rfl
    rw [hcl, show NodX false x.a c s = NodI x.a c s from rfl, show NodX false x.a c s' = NodI x.a c s' from rfl]
    refine run ?_
    refine .box fun z5 => ?_
    refine run ?_
    refine .new fun z8 => ?_
    refine run ?_
    refine .quiet rfl rfl rfl (Q.neNilP rfl rfl rfl rfl rfl) ?_
    refine run ?_
    refine W.plan [] mixed (by rfl) (by kernel_rfl) ?_
    refine run ?_
    refine .two ?k1 ?k2
    case' k1 =>
      refine .callE hN ?_
      rintro v L ⟨EA, ec, MA, mc, SA, sc, rfl, rfl⟩
      refine run ?_
      refine .new fun z10 => ?_
    case' k2 =>
      refine .new fun z10 => ?_
      refine .callE hN ?_
      rintro v L ⟨EA, ec, MA, mc, SA, sc, rfl, rfl⟩
    all_goals
      refine run ?_
      refine .callQ num_q ?_
      refine run ?_
      rw [← hcl]
      refine .ent ((Picks.ent (a := [Lg EA r.es.length ec r.ei r.es]) picks).trans (.of (Y := RLd EA r.ei r.es) fun _ h => Lg.lend h)) ?_
      refine .ent ((Picks.ent (a := [Ms MA r.ms.length mc r.ms]) picks).trans (.of (Y := MsD MA r.ms) fun _ h => Ms.lend h)) ?_
      refine .callE (done_t H hr T hlc hnn hnl) ?_
      rintro v L ⟨hi, NA, nc, lA, lc, b1, b2, b3, rfl, rfl⟩
      rw [hbo]
      refine run ?_
      exact .retE Tryz.func15 ⟨hi, NA, nc, lA, lc, b1, b2, b3, rfl, rfl⟩
theorem wstep_e {err : Nat} (hE : EvGo c s e data s {} (err : Nat)) (hI : EvIn e data X D) (he : err ≠ 0) :
    Fn Tryz.prog 15 [pt bw, pt bs, .agg (encV e).toArray].toArray
    [Blk true bw (wcells c a) 43, Blk true bs (scells x d) 52, NodX x.bo x.a c s, RLd x.lA d.snap (d.log.drop d.snap), MapsP G a.mL a.mV a.mK a.mT, NetP a.NA a.nn a.nc net, X, D]
    (Det (.tuple #[nv err, .bool true]) [Blk true bw (wcells c a) 43, Blk true bs (scells x d) 52, NodX x.bo x.a c s, RLd x.lA d.snap (d.log.drop d.snap), MapsP G a.mL a.mV a.mK a.mT, NetP a.NA a.nn a.nc net, X, D]) := by
  obtain ⟨mes, lbs, i1, i2, i3, i4, i5, i6, i7, i8, i9, i10, i11, i12⟩ := hI.go
  refine Fn.enter Tryz.func15 rfl (by kernel_rfl) rfl ?_
  cases hbo : x.bo with
  | true =>
    have hr : Rdy.Ok {} := ⟨Nat.zero_le _, Nat.zero_le _, (fun _ h => nomatch h), Nat.zero_le _⟩
    have hN := nstep_n (b := x.a) hE hr i1 i2 i3 i4 i5 i6 i7 i8 i9 i10 i11 i12 (fun _ h => nomatch h) (fun _ h => nomatch h)
    have hcl : scells x d = [nv x.id, .pointer none, pt x.a, nv d.term, nv d.vote, nv d.snap, nv (d.tm d.snap), .slice x.lA (d.log.length - d.snap) x.lc, nv x.cm, nv x.mo, nv x.ro, nv x.le] := by
      unfold scells ptIf; rw [hbo]; rfl
    rw [hcl, show NodX true x.a c s = BothI x.a c s from rfl]
    refine run ?_
    refine .box fun z5 => ?_
    refine run ?_
    refine .new fun z8 => ?_
    refine run ?_
    refine .quiet rfl rfl rfl (Q.neNilP rfl rfl rfl rfl rfl) ?_
    refine run ?_
    refine W.plan [] mixed (by rfl) (by kernel_rfl) ?_
    refine run ?_
    refine .two ?m1 ?m2
    case' m1 =>
      refine .callE hN ?_
      rintro v L ⟨EA, ec, MA, mc, SA, sc, rfl, rfl⟩
      refine run ?_
      refine .new fun z10 => ?_
    case' m2 =>
      refine .new fun z10 => ?_
      refine .callE hN ?_
      rintro v L ⟨EA, ec, MA, mc, SA, sc, rfl, rfl⟩
    all_goals
      refine run ?_
      rw [← hcl]
      exact .retE Tryz.func15 ⟨rfl, rfl⟩
  | false =>
    have hN := (hE e.A e.dA e.c e.dc X D mes lbs i1 i2 i3 i4 i5 i6 i8).1 x.a
    rw [← i7] at hN
    have hcl : scells x d = [nv x.id, pt x.a, .pointer none, nv d.term, nv d.vote, nv d.snap, nv (d.tm d.snap), .slice x.lA (d.log.length - d.snap) x.lc, nv x.cm, nv x.mo, nv x.ro, nv x.le] := by
      unfold scells ptIf; rw [hbo]; rfl
    rw [hcl, show NodX false x.a c s = NodI x.a c s from rfl]
    refine run ?_
    refine .box fun z5 => ?_
    refine run ?_
    refine .new fun z8 => ?_
    refine run ?_
    refine .quiet rfl rfl rfl (Q.neNilP rfl rfl rfl rfl rfl) ?_
    refine run ?_
    refine W.plan [] mixed (by rfl) (by kernel_rfl) ?_
    refine run ?_
    refine .two ?n1 ?n2
    case' n1 =>
      refine .callE hN ?_
      rintro v L ⟨EA, ec, MA, mc, SA, sc, rfl, rfl⟩
      refine run ?_
      refine .new fun z10 => ?_
    case' n2 =>
      refine .new fun z10 => ?_
      refine .callE hN ?_
      rintro v L ⟨EA, ec, MA, mc, SA, sc, rfl, rfl⟩
    all_goals
      refine run ?_
      refine .callQ num_q ?_
      refine run ?_
      rw [← hcl]
      exact .retE Tryz.func15 ⟨rfl, rfl⟩
end
end Go.SL
namespace Go.SL
open Go.Proofs Go.Proofs.YtocogcgnahbpkaaGreat
open Rs (Nd)
set_option maxRecDepth 10000
def rdyOf (s s' : Nd) (frm : Nat) (fl : Nat × Nat) (o : List Rf.Msg) : Rdy :=
  { term := s'.term, vote := s'.vote, write := rWrite s s' frm, from_ := rFrom s' frm, ei := rFrom s' frm - 1, es := rEnts s' frm, ms := o, commit := s'.commit, sn := snL o, role := s'.role, leader := s'.leader, first := fl.1, last := fl.2 }
structure Siz (c : Cfg) (s : Nd) : Prop where
  sn : Sn c s
  gr : s.gr.length ≤ 1000
  rf : s.rf.length ≤ 1000
structure OutOk (c : Cfg) (s' : Nd) (frm : Nat) (o : List Rf.Msg) : Prop where
  sn : Sn c s'
  frm : frm = 0 ∨ (s'.snap < frm ∧ frm ≤ s'.log.length + 1)
  snl : rSnaps c s' o = snL o
attribute [local irreducible] W RS RG RT RD Fn FnQ OpS QOp Own Sat Rd Gr Mp Rg Lg Ms Es Nod Rp NodI RLg RMs REs RN RLd RNF EsD MsD NBk BkP BkRd BothI MapsP KnD NetP
section
variable {c : Cfg} {s s' : Nd} {e : EV} {frm : Nat} {fl : Nat × Nat} {o : List Rf.Msg} {data : List (List Int)}
theorem evgo_n (hs : Siz c s) (ho : OutOk c s' frm o) (hk : 1 ≤ e.kind ∧ e.kind ≤ 7)
    (hP : ∀ (A dA : Option Addr) (cp dc : Nat) (X D : HP) (mes : List LE) (lbs : List LB), Reads X A (mes.flatMap encLE) → Reads X dA (lbs.map vB) → DRead D mes → DReadB D lbs → mes.map (·.e) = ents e.m.idx e.m.es → lbs.map (·.data) = data → mes.length ≤ cp →
      ∀ p, (∀ bs, Fn Tryz.prog (71 + e.kind) [pt p, .agg (encV (e.at A cp dA lbs.length dc)).toArray].toArray [NodS p c bs e.draw s.log (0, 0) s [], X, D] (Det (iv 0) [Nod p c bs s' ⟨e.draw, o.length, frm, fl.1, fl.2⟩ o, X, D])) ∧
        Fn Tryz.prog 69 [pt p, .agg (encV (e.at A cp dA lbs.length dc)).toArray].toArray [RNS p c s.log (0, 0) s [], X, D] (Det (iv 0) [RNF p c s' ⟨o.length, (snL o).length, frm, fl.1, fl.2⟩ o, X, D])) :
    EvGo c s e data s' (rdyOf s s' frm fl o) 0 := by
  intro A dA cp dc X D mes lbs h1 h2 h3 h4 h5 h6 h7
  refine ⟨fun pp => ?_, fun h x hh => ?_⟩
  · refine (step_n (p := pp) (e := e.at A cp dA lbs.length dc) hs.sn ho.sn hk ho.frm (hP A dA cp dc X D mes lbs h1 h2 h3 h4 h5 h6 h7 pp).1).mono ?_
    rintro v L ⟨EA, ec, MA, mc, SA, sc, rfl, rfl⟩
    rw [ho.snl]
    exact ⟨_, .refl _, EA, ec, MA, mc, SA, sc, rfl, rfl⟩
  · refine (rstep_n (e := e.at A cp dA lbs.length dc) (x := x) hs.sn ho.sn hh hs.gr hs.rf ho.frm fun p => (hP A dA cp dc X D mes lbs h1 h2 h3 h4 h5 h6 h7 p).2).mono ?_
    rintro v L ⟨h', hh', EA, ec, rfl, rfl⟩
    exact ⟨_, .cons _ (.cons _ (.cons _ (.cons _ ((Ent.of fun r hr => Lg.lend hr).trans (.cons _ (.of fun r hr => RMs.lend hr)))))), h', _, EA, ec, _, _, _, _, hh', rfl, rfl⟩
theorem evgo_e {err : Nat} (hs : Siz c s) (hk : 1 ≤ e.kind ∧ e.kind ≤ 7) (he : err ≠ 0)
    (hP : ∀ (A dA : Option Addr) (cp dc : Nat) (X D : HP) (mes : List LE) (lbs : List LB), Reads X A (mes.flatMap encLE) → Reads X dA (lbs.map vB) → DRead D mes → DReadB D lbs → mes.map (·.e) = ents e.m.idx e.m.es → lbs.map (·.data) = data → mes.length ≤ cp →
      ∀ p, (∀ bs, Fn Tryz.prog (71 + e.kind) [pt p, .agg (encV (e.at A cp dA lbs.length dc)).toArray].toArray [NodS p c bs e.draw s.log (0, 0) s [], X, D] (Det (iv err) [NodS p c bs e.draw s.log (0, 0) s [], X, D])) ∧
        Fn Tryz.prog 69 [pt p, .agg (encV (e.at A cp dA lbs.length dc)).toArray].toArray [RNS p c s.log (0, 0) s [], X, D] (Det (iv err) [RNS p c s.log (0, 0) s [], X, D])) :
    EvGo c s e data s {} (err : Nat) := by
  intro A dA cp dc X D mes lbs h1 h2 h3 h4 h5 h6 h7
  refine ⟨fun pp => ?_, fun h x hh => ?_⟩
  · refine (step_e (p := pp) (c := c) (s := s) (e := e.at A cp dA lbs.length dc) (err := err) hk he (hP A dA cp dc X D mes lbs h1 h2 h3 h4 h5 h6 h7 pp).1).mono ?_
    rintro v L ⟨rfl, rfl⟩
    refine ⟨[NodI pp c s, Lg none 0 0 0 [], Ms none 0 0 [], Gr 1 3 none 0 0 [], X, D], ?_, none, 0, none, 0, none, 0, rfl, rfl⟩
    refine .cons _ ?_
    exact (Ent.mk (X := Gr 1 3 none 0 0 []) fun r => Gr.nil).trans ((Ent.mk (X := Ms none 0 0 []) fun r => Ms.nil).trans (Ent.mk (X := Lg none 0 0 0 []) fun r => Lg.nil))
  · refine (rstep_e (e := e.at A cp dA lbs.length dc) (x := x) (err := (err : Nat)) hs.sn hh hs.gr hs.rf (by omega) fun p => (hP A dA cp dc X D mes lbs h1 h2 h3 h4 h5 h6 h7 p).2).mono ?_
    rintro v L ⟨rfl, rfl⟩
    refine ⟨[RLdN h s, OthR c h s, GraR h s, RefR h s, RLd none 0 [], MsD none [], Rd false none ((li []).map iv), X, D], ?_, h, x, none, 0, none, 0, none, 0, hh, rfl, rfl⟩
    refine .cons _ (.cons _ (.cons _ (.cons _ ?_)))
    exact (Ent.mk (X := Gr 1 3 none 0 0 []) fun r => Gr.nil).trans ((Ent.of fun r hr => hr.rd.lend).trans ((Ent.mk (X := Ms none 0 0 []) fun r => Ms.nil).trans ((Ent.of fun r hr => Ms.lend hr).trans ((Ent.mk (X := Lg none 0 0 0 []) fun r => Lg.nil).trans (.of fun r hr => Lg.lend hr)))))
end
end Go.SL
namespace Go.SL
open Go.Proofs Go.Proofs.YtocogcgnahbpkaaGreat
open Rs (Nd)
set_option maxRecDepth 10000
attribute [local irreducible] W RS RG RT RD Fn FnQ OpS QOp Own Sat Rd Gr Mp Rg Lg Ms Es Nod Rp NodI RLg RMs REs RN RLd RNF EsD MsD NBk BkP BkRd BothI MapsP KnD NetP
structure MsgIn (c : Cfg) (s : Nd) (m : Rf.Msg) : Prop where
  log : s.log.length < 65536
  term : s.term < 1099511627776
  mterm : m.term < 1099511627776
  ld : s.role = 4 → Ld c s ∧ (m.kind = 6 → m.term = s.term → m.rej = false → m.idx ≤ s.log.length)
  fmd : Fmd c s m
  dat : ∀ e ∈ m.es, e.data.length ≤ 140737488351232
  rgt : Rgt c s m
  heir : s.role ≠ 4 → s.heir = 0
  fit : m.kind = 5 → m.idx + m.es.length < 65536
structure TickIn (c : Cfg) (s : Nd) : Prop where
  ldr : Ldr c s
  hd : s.role = 4 → HdOk c s
  heir : s.role ≠ 4 → s.heir = 0
  log : s.log.length < 65536
  term : s.term < 1099511627776
  el : s.elapsed < 1099511627776 ∧ s.beat < 1099511627776
section
variable {c : Cfg} {s s' : Nd} {e : EV} {frm : Nat} {fl : Nat × Nat} {o : List Rf.Msg} {data : List (List Int)}
theorem nfD {f : Nat} {ar : Array Value} {v : Value} {M X D : HP} {p : Nat} {x : RX} {ms : List Rf.Msg} (h : Fn Tryz.prog f ar [M, X, D] (Det v [RN p c s x ms, X, D])) : Fn Tryz.prog f ar [M, X, D] (Det v [RNF p c s x ms, X, D]) :=
  h.mono fun v L ⟨hv, hL⟩ => ⟨_, by rw [hL]; exact (Ent.of fun r hr => RN.nf hr), hv, rfl⟩
theorem ev_tick (hs : Siz c s) (hk : e.kind = 1) (H : TickIn c s) (ho : OutOk c (Rs.tick c e.draw s).1 (fr s.log (Rs.tick c e.draw s).1.log) (Rs.tick c e.draw s).2) :
    EvGo c s e data (Rs.tick c e.draw s).1 (rdyOf s (Rs.tick c e.draw s).1 (fr s.log (Rs.tick c e.draw s).1.log) (0, 0) (Rs.tick c e.draw s).2) 0 := by
  refine evgo_n hs ho (by omega) fun A dA cp dc X D mes lbs h1 h2 h3 h4 h5 h6 h7 p => ⟨fun bs => ?_, ?_⟩
  · rw [show 71 + e.kind = 72 by omega]
    exact frameD (tick_ok (ms := []) hs.sn H.ldr (Nat.zero_le _) H.log H.term H.el)
  · exact nfD (revent1 (e := e.at A cp dA lbs.length dc) hk (rtick_n (ms := []) (fl := (0, 0)) hs.sn H.ldr H.hd H.heir (Nat.zero_le _) H.log H.term H.el))
theorem ev_msg (hs : Siz c s) (hk : e.kind = 2) (H : MsgIn c s e.m) (ho : OutOk c (Rs.message c e.draw e.m s).1 (fr s.log (Rs.message c e.draw e.m s).1.log) (Rs.message c e.draw e.m s).2) :
    EvGo c s e data (Rs.message c e.draw e.m s).1 (rdyOf s (Rs.message c e.draw e.m s).1 (fr s.log (Rs.message c e.draw e.m s).1.log) (0, 0) (Rs.message c e.draw e.m s).2) 0 := by
  refine evgo_n hs ho (by omega) fun A dA cp dc X D mes lbs h1 h2 h3 h4 h5 h6 h7 p => ?_
  have hO : Hok c s e.m X D A cp mes := ⟨hs.sn, H.log, H.term, H.mterm, hs.gr, hs.rf, H.ld, H.fmd, h1, h3, h5, H.dat, h7⟩
  refine ⟨fun bs => ?_, ?_⟩
  · rw [show 71 + e.kind = 73 by omega]
    exact message_n (e := e.at A cp dA lbs.length dc) (ms := []) hO H.rgt (Nat.zero_le _)
  · exact nfD (revent2 (e := e.at A cp dA lbs.length dc) hk (rmay_t hs.sn H.fmd H.rgt h1 h5) (rmessage_n (ms := []) (fl := (0, 0)) ⟨hO, H.heir, H.fit⟩ (Nat.zero_le _)))
theorem ev_propose (hs : Siz c s) (hk : e.kind = 3) (hl : LdN c s) (hr : s.role = 4) (hh0 : s.heir = 0) (h16 : 1 ≤ data.length ∧ data.length ≤ 16) (hf : s.log.length + data.length < 65536) (hd : ∀ b ∈ data, b.length ≤ 140737488351232)
    (ho : OutOk c (Rs.propose c data s).1 (fr s.log (Rs.propose c data s).1.log) (Rs.propose c data s).2) :
    EvGo c s e data (Rs.propose c data s).1 (rdyOf s (Rs.propose c data s).1 (fr s.log (Rs.propose c data s).1.log) (s.log.length + 1, s.log.length + data.length) (Rs.propose c data s).2) 0 := by
  refine evgo_n hs ho (by omega) fun A dA cp dc X D mes lbs h1 h2 h3 h4 h5 h6 h7 p => ?_
  subst h6
  rw [List.length_map] at *
  have hd2 : ∀ b ∈ lbs, b.data.length ≤ 140737488351232 := fun b hb => hd _ (List.mem_map_of_mem hb)
  refine ⟨fun bs => ?_, ?_⟩
  · rw [show 71 + e.kind = 74 by omega]
    exact propose_ok (e := e.at A cp dA lbs.length dc) (ms := []) hs.sn hl h2 h4 rfl hr hh0 h16 hf hd2 (Nat.zero_le _)
  · exact nfD (revent3 (e := e.at A cp dA lbs.length dc) hk (rpropose_ok (ms := []) hs.sn hl h2 h4 hr hh0 h16 hf hd2 (Nat.zero_le _)))
theorem ev_refused (hs : Siz c s) (hk : e.kind = 3) (hn : data.length ≤ 140737488351232) (hr : Rs.refuse data s ≠ 0) : EvGo c s e data s {} (Rs.refuse data s : Nat) := by
  refine evgo_e hs (by omega) hr fun A dA cp dc X D mes lbs h1 h2 h3 h4 h5 h6 h7 p => ?_
  subst h6
  rw [List.length_map] at hn
  refine ⟨fun bs => ?_, ?_⟩
  · rw [show 71 + e.kind = 74 by omega]
    exact frameD (propose_e (e := e.at A cp dA lbs.length dc) hs.sn rfl hn hr)
  · exact revent3 (e := e.at A cp dA lbs.length dc) hk (frameD (rpropose_e hs.sn hn hr))
theorem ev_compact (hs : Siz c s) (hk : e.kind = 4) (hi : s.snap < e.idx ∧ e.idx ≤ s.commit) (ho : OutOk c (Rs.compact e.idx s) 0 []) : EvGo c s e data (Rs.compact e.idx s) (rdyOf s (Rs.compact e.idx s) 0 (0, 0) []) 0 := by
  refine evgo_n hs ho (by omega) fun A dA cp dc X D mes lbs h1 h2 h3 h4 h5 h6 h7 p => ?_
  have h := fun bs => compact_ok (p := p) (bs := bs) (d := e.draw) (l0 := s.log) (fl := (0, 0)) (ms := []) (e := e.at A cp dA lbs.length dc) hs.sn hi
  have h8 := rcompact_ok (p := p) (l0 := s.log) (fl := (0, 0)) (ms := []) hs.sn hi
  rw [fr_self] at h8
  refine ⟨fun bs => ?_, ?_⟩
  · rw [show 71 + e.kind = 75 by omega]
    have h9 := frameD (X := X) (D := D) (h bs)
    rw [show NodS p c bs e.draw s.log (0, 0) (Rs.compact e.idx s) [] = Nod p c bs (Rs.compact e.idx s) ⟨e.draw, 0, 0, 0, 0⟩ [] by rw [NodS, show (Rs.compact e.idx s).log = s.log from rfl, fr_self]; rfl] at h9
    exact h9
  · exact revent4 (e := e.at A cp dA lbs.length dc) hk h8
theorem ev_installed {L : List Rf.Ent} (hs : Siz c s) (hk : e.kind = 5) (hr : s.role ≠ 4) (hi : s.commit < e.idx ∧ e.idx = L.length ∧ e.idx < 1099511627776) (ht : 1 ≤ e.term ∧ e.term ≤ s.term) (hL : Rf.tmL L L.length = e.term)
    (ho : OutOk c (Rs.installed L s) (e.idx + 1) []) : EvGo c s e data (Rs.installed L s) (rdyOf s (Rs.installed L s) (e.idx + 1) (0, 0) []) 0 := by
  refine evgo_n hs ho (by omega) fun A dA cp dc X D mes lbs h1 h2 h3 h4 h5 h6 h7 p => ⟨fun bs => ?_, ?_⟩
  · rw [show 71 + e.kind = 76 by omega]
    exact frameD (installed_ok (e := e.at A cp dA lbs.length dc) hs.sn hr hi ht hL)
  · exact revent5 (e := e.at A cp dA lbs.length dc) hk (rinstalled_ok hs.sn hr hi ht hL)
theorem ev_handOver (hs : Siz c s) (hk : e.kind = 6) (hr : s.role = 4) (hy : e.peer ∈ oth c s) (hl : LdN c s) (ho : OutOk c (Rs.handOver c e.peer s).1 (fr s.log (Rs.handOver c e.peer s).1.log) (Rs.handOver c e.peer s).2) :
    EvGo c s e data (Rs.handOver c e.peer s).1 (rdyOf s (Rs.handOver c e.peer s).1 (fr s.log (Rs.handOver c e.peer s).1.log) (0, 0) (Rs.handOver c e.peer s).2) 0 := by
  refine evgo_n hs ho (by omega) fun A dA cp dc X D mes lbs h1 h2 h3 h4 h5 h6 h7 p => ⟨fun bs => ?_, ?_⟩
  · rw [show 71 + e.kind = 77 by omega]
    exact frameD (handOver_ok (e := e.at A cp dA lbs.length dc) (ms := []) hs.sn hr hy hl (Nat.zero_le _))
  · exact nfD (revent67 (e := e.at A cp dA lbs.length dc) (.inl hk) (rhandOver_ok (e := e.at A cp dA lbs.length dc) (ms := []) hs.sn hr hy hk hl (Nat.zero_le _) (Nat.zero_le _)))
theorem ev_handOver_e1 (hs : Siz c s) (hk : e.kind = 6) (hy : e.peer ∉ oth c s) : EvGo c s e data s {} (161 : Nat) := by
  refine evgo_e hs (by omega) (by omega) fun A dA cp dc X D mes lbs h1 h2 h3 h4 h5 h6 h7 p => ⟨fun bs => ?_, ?_⟩
  · rw [show 71 + e.kind = 77 by omega]
    exact frameD (handOver_e1 (e := e.at A cp dA lbs.length dc) hs.sn hy)
  · exact revent67 (e := e.at A cp dA lbs.length dc) (.inl hk) (rabout_e (e := e.at A cp dA lbs.length dc) hs.sn hy)
theorem ev_handOver_e2 (hs : Siz c s) (hk : e.kind = 6) (hy : e.peer ∈ oth c s) (hr : s.role ≠ 4) : EvGo c s e data s {} (162 : Nat) := by
  refine evgo_e hs (by omega) (by omega) fun A dA cp dc X D mes lbs h1 h2 h3 h4 h5 h6 h7 p => ⟨fun bs => ?_, ?_⟩
  · rw [show 71 + e.kind = 77 by omega]
    exact frameD (handOver_e2 (e := e.at A cp dA lbs.length dc) hs.sn hy hr)
  · exact revent67 (e := e.at A cp dA lbs.length dc) (.inl hk) (rhandOver_e2 (e := e.at A cp dA lbs.length dc) hs.sn hy hk hr)
theorem ev_far (hs : Siz c s) (hk : e.kind = 7) (hy : e.peer ∈ oth c s) (ho : OutOk c (Rs.far e.peer s) (fr s.log (Rs.far e.peer s).log) []) :
    EvGo c s e data (Rs.far e.peer s) (rdyOf s (Rs.far e.peer s) (fr s.log (Rs.far e.peer s).log) (0, 0) []) 0 := by
  refine evgo_n hs ho (by omega) fun A dA cp dc X D mes lbs h1 h2 h3 h4 h5 h6 h7 p => ⟨fun bs => ?_, ?_⟩
  · rw [show 71 + e.kind = 78 by omega]
    exact frameD (far_ok (e := e.at A cp dA lbs.length dc) (ms := []) hs.sn hy)
  · exact nfD (revent67 (e := e.at A cp dA lbs.length dc) (.inr hk) (rfar_ok (e := e.at A cp dA lbs.length dc) (ms := []) hs.sn hy hk))
theorem ev_far_e (hs : Siz c s) (hk : e.kind = 7) (hy : e.peer ∉ oth c s) : EvGo c s e data s {} (161 : Nat) := by
  refine evgo_e hs (by omega) (by omega) fun A dA cp dc X D mes lbs h1 h2 h3 h4 h5 h6 h7 p => ⟨fun bs => ?_, ?_⟩
  · rw [show 71 + e.kind = 78 by omega]
    exact frameD (far_e (e := e.at A cp dA lbs.length dc) hs.sn hy)
  · exact revent67 (e := e.at A cp dA lbs.length dc) (.inr hk) (rabout_e (e := e.at A cp dA lbs.length dc) hs.sn hy)
end
end Go.SL
namespace Go.SL
open Go.Proofs Go.Proofs.YtocogcgnahbpkaaGreat
open Rs (Nd)
set_option maxRecDepth 10000
def Wrg (c : Cfg) (s : Nd) (m : Rf.Msg) : Prop :=
  (m.kind = 5 ∧ s.term ≤ m.term ∧ (m.term = s.term → s.role ≠ 4) ∧ m.idx = s.commit ∧ m.lt ≠ s.tm s.commit) ∨ (m.kind = 6 ∧ m.term = s.term ∧ s.role = 4 ∧ m.rej = false ∧ s.log.length < m.idx)
attribute [local irreducible] W RS RG RT RD Fn FnQ OpS QOp Own Sat Rd Gr Mp Rg Lg Ms Es Nod Rp NodI RLg RMs REs RN RLd RNF EsD MsD NBk BkP BkRd BothI MapsP KnD NetP
section
variable {c : Cfg} {s s' : Nd} {e : EV} {frm p bs cp : Nat} {fl : Nat × Nat} {m : Rf.Msg} {A : Option Addr} {ms : List Rf.Msg} {x : EX} {d : Int}
theorem wrong_t (hs : Sn c s) (hr : Wrg c s m) : FnQ Tryz.prog 100 [pt p, .agg (encM m A cp).toArray].toArray [Nod p c bs s x ms] (.bool true) := by
  refine .nod (.of Tryz.func100 rfl (by kernel_rfl)) fun h hh => ?_
  refine FnQ.pre ?_ (Picks.ent (a := [LgN h s]) picks)
  refine FnQ.lg (fun les hles => ?_) (.of Tryz.func100 rfl (by kernel_rfl))
  refine FnQ.pre (Fn.quietD (M := [Nb false p c h s x, Rd false h.lA (les.flatMap encLE)]) ?_ pers2) ((Picks.sub (a := [Nb true p c h s x, Gr 3 67 h.lA h.ln h.lc (les.flatMap encLE)]) picks).trans (lend2 .gr))
  have hsm := hs.at hh
  have hf := hs.fin
  have hT := term_r (x := x) (p := p) hsm hles (i := s.commit) (by omega)
  have hE : FnQ Tryz.prog 57 [pt p].toArray [Nb false p c h s x] (nv s.log.length) := end_q hsm
  refine Fn.enter Tryz.func100 rfl (by kernel_rfl) rfl ?_
  refine run ?_
  refine .box fun z => ?_
  rcases hr with ⟨h5, h6, hl, h7, h8⟩ | ⟨h6, h1, h2, hj, h9⟩
  · by_cases h1 : m.term = s.term
    case' pos => have h2 := hl h1
    all_goals
      refine run ?_
      refine W.plan [] mixed (by rfl) (by kernel_rfl) ?_
      refine run ?_
      refine W.plan [30] mixed (by rfl) (by kernel_rfl) ?_
      refine run ?_
      refine .callQ hT ?_
      refine run ?_
      exact .retD Tryz.func100
  · refine run ?_
    refine W.plan [] mixed (by rfl) (by kernel_rfl) ?_
    refine run ?_
    refine W.plan [13] mixed (by rfl) (by kernel_rfl) ?_
    refine run ?_
    refine RG.hit 75 rfl (by rw [hj]; rfl : _ = .bool true) ?_
    refine run ?_
    refine .callQ hE ?_
    refine run ?_
    exact .retD Tryz.func100
theorem message_e {e : EV} {X D : HP} {mes : List LE} {l0 : List Rf.Ent} (hs : Sn c s) (hf : Fmd c s e.m) (hX : Reads X e.A (mes.flatMap encLE)) (hes : mes.map (·.e) = ents e.m.idx e.m.es) (hr : Wrg c s e.m) : Fn Tryz.prog 73 [pt p, .agg (encV e).toArray].toArray [NodS p c bs d l0 fl s ms, X, D]
    (Det (nv 161) [NodS p c bs d l0 fl s ms, X, D]) := by
  have hF := formed_t (cp := e.c) (x := ⟨d, ms.length, fr l0 s.log, fl.1, fl.2⟩) (p := p) (bs := bs) (ms := ms) hs hf hX hes
  have hW := wrong_t (x := ⟨d, ms.length, fr l0 s.log, fl.1, fl.2⟩) (p := p) (bs := bs) (ms := ms) (A := e.A) (cp := e.c) hs hr
  refine Fn.enter Tryz.func73 rfl (by kernel_rfl) rfl ?_
  refine run ?_
  refine .box fun z => ?_
  refine run ?_
  refine .quiet rfl rfl rfl (Q.loadPart (vs := encM e.m e.A e.c) rfl rfl rfl rfl pick rfl rfl) ?_
  refine .new fun z5 => ?_
  refine run ?_
  refine .callQ hF ?_
  refine run ?_
  refine .callQ hW ?_
  refine run ?_
  exact .retD Tryz.func73
end
end Go.SL
