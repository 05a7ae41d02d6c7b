/-
  A part of the proof of what E53 says at its head.
-/
import Derived.Test.YtocogcgnahbpkaaGreatE41
namespace Go.SL
open Go.Proofs Go.Proofs.YtocogcgnahbpkaaGreat
open Rs (Nd)
set_option maxRecDepth 10000
theorem oneLM (l : List LM) : (l.flatMap encL).all isOne = true := by simp [List.all_flatMap, encL, encM, isOne]
theorem dropRdM {A : Option Addr} {l : List LM} {r : Res} (k cap : Nat) (h : Rd false A (l.flatMap encL) r) (hl : l.length ≤ cap) (hk : k ≤ l.length) : Rd false (if cap = k then A else adr A (k * 10)) ((l.drop k).flatMap encL) r := by
  split
  · rw [List.drop_eq_nil_of_le (by omega)]; exact Rd.nil
  · have e : l.flatMap encL = (l.take k).flatMap encL ++ (l.drop k).flatMap encL ++ [] := by rw [List.append_nil, ← List.flatMap_append, List.take_append_drop]
    rw [e] at h
    have := h.mid
    rwa [flat_len lenLM, List.length_take, Nat.min_eq_left hk] at this
theorem nilReads {X : HP} : Reads X none [] := fun _ _ => (Gr.nil (sz := 1) (E := 1)).rd.lend
attribute [local irreducible] W RS RG RT RD Fn FnQ OpS QOp Own Sat Rd Gr Mp Rg Lg Ms Es Nod Rp NodI RLg RMs REs RN RLd RNF EsD MsD NBk BkP BkRd BothI MapsP KnD NetP
def evM (m : Rf.Msg) (dr : Int) : EV := ⟨2, dr, m, none, 0, none, 0, 0, 0, 0, 0⟩
def evT (dr : Int) : EV := ⟨1, dr, { kind := 0, src := 0, dst := 0, term := 0 }, none, 0, none, 0, 0, 0, 0, 0⟩
def evP : EV := ⟨3, 0, { kind := 0, src := 0, dst := 0, term := 0 }, none, 0, none, 0, 0, 0, 0, 0⟩
def evC (i : Nat) : EV := ⟨4, 0, { kind := 0, src := 0, dst := 0, term := 0 }, none, 0, none, 0, 0, 0, i, 0⟩
def evI (i t : Nat) : EV := ⟨5, 0, { kind := 0, src := 0, dst := 0, term := 0 }, none, 0, none, 0, 0, 0, i, t⟩
def evH (p : Nat) : EV := ⟨6, 0, { kind := 0, src := 0, dst := 0, term := 0 }, none, 0, none, 0, 0, p, 0, 0⟩
def evU (p : Nat) : EV := ⟨7, 0, { kind := 0, src := 0, dst := 0, term := 0 }, none, 0, none, 0, 0, p, 0, 0⟩
def netOf (ag : Bool) (j : Nat) (net : List Rf.Msg) : List Rf.Msg := if ag = true then net else net.eraseIdx j
section
variable {c : Rf.Cfg} {bw bs : Nat} {a : WC} {x : SC} {s dB s' : Nd} {G : MG} {r : Rdy} {net : List Rf.Msg} {ps : List Nat} {m : Rf.Msg} {dr : Int} {j : Nat} {ag : Bool}
theorem EvGo.at {c : Cfg} {s s' : Nd} {e : EV} {data : List (List Int)} {r : Rdy} {err : Int} (h : EvGo c s e data s' r err) (A : Option Addr) (cp : Nat) (dA : Option Addr) (dn dc : Nat) : EvGo c s (e.at A cp dA dn dc) data s' r err :=
  fun A' dA' cp' dc' X D mes lbs h1 h2 h3 h4 h5 h6 h7 => h A' dA' cp' dc' X D mes lbs h1 h2 h3 h4 h5 h6 h7
theorem DoneOk.at {e : EV} {d : Nd} (h : DoneOk e r d dB s') (A : Option Addr) (cp : Nat) (dA : Option Addr) (dn dc : Nat) : DoneOk (e.at A cp dA dn dc) r d dB s' :=
  ⟨h.hard, h.wr, h.dsn, h.k4, h.k5, h.k0, h.yes, h.no, h.hd, h.bl, h.dat, h.datB, h.date, h.datm⟩
structure Ari (c : Rf.Cfg) (bs : Nat) (a : WC) (net : List Rf.Msg) (ps : List Nat) (m : Rf.Msg) (j : Nat) : Prop where
  nn : a.nn = net.length
  nl : net.length ≤ 100000
  j : net[j]? = some m
  p : ps[m.dst - 1]? = some bs
  pl : ps.length = c.n
  cn : c.n ≤ 5
  ds : 1 ≤ m.dst ∧ m.dst ≤ c.n
  me : m.es.length ≤ 16
  md : ∀ z ∈ m.es, z.data.length ≤ 140737488351232
theorem arrive_g {ι : Type} {φ : ι → Prop} {er : ι → Nat} {Q1 Q2 Q3 Q4 Q5 Q6 : ι → HP} (K : Ari c bs a net ps m j)
    (hw : ∀ NA nc A2 cp X D, EvIn ((evM m dr).at A2 cp none 0 0) [] X D → Fn Tryz.prog 15 [pt bw, pt bs, .agg (encV ((evM m dr).at A2 cp none 0 0)).toArray].toArray
      [Blk true bw (wcells c { a with NA := NA, nn := (netOf ag j net).length, nc := nc }) 43, Blk true bs (scells x s) 52, NodX x.bo x.a c s, RLd x.lA s.snap (s.log.drop s.snap), MapsP G a.mL a.mV a.mK a.mT, NetP NA (netOf ag j net).length nc (netOf ag j net), X, D]
      (fun v L => ∃ i, φ i ∧ v = .tuple #[nv (er i), .bool true] ∧ L = [Q1 i, Q2 i, Q3 i, Q4 i, Q5 i, Q6 i, X, D])) :
    Fn Tryz.prog 25 [pt bw, nv j, iv dr, .bool ag].toArray
    [Blk true bw (wcells c a) 43, Gr 1 35 a.SA c.n a.sc (ps.map pt), Blk true bs (scells x s) 52, NodX x.bo x.a c s, RLd x.lA s.snap (s.log.drop s.snap), MapsP G a.mL a.mV a.mK a.mT, NetP a.NA a.nn a.nc net]
    (fun v L => ∃ i, φ i ∧ v = .bool true ∧ L = [Q1 i, Gr 1 35 a.SA c.n a.sc (ps.map pt), Q2 i, Q3 i, Q4 i, Q5 i, Q6 i]) := by
  obtain ⟨hnn, hnl, hj, hp, hpl, hcn, hds, hme, hmd⟩ := K
  have hjl : j < net.length := (List.getElem?_eq_some_iff.1 hj).1
  refine Fn.enter Tryz.func25 rfl (by kernel_rfl) rfl ?_
  refine .first (NetP a.NA a.nn a.nc net) ?_
  refine .net fun ys hys => ?_
  have hyl : ys.length = net.length := by rw [← hys, List.length_map]
  obtain ⟨y, hy⟩ : ∃ y, ys[j]? = some y := ⟨_, List.getElem?_eq_getElem (by omega)⟩
  have hym : y.m = m := by
    have h1 := congrArg (fun l => l[j]?) hys
    simp only [List.getElem?_map, hy, Option.map_some, hj] at h1
    injection h1
  have hRg : Reads (Gr 10 59 a.NA a.nn a.nc (ys.flatMap encL)) a.NA (ys.flatMap encL) := .gr
  refine W.fact (fun w h => IsA.of (k := j * 10) Reads.gr (by exact pick) (by rw [flat_len lenLM]; omega) h) fun hA => ?_
  refine W.fact (fun w h => Gr.cap h) fun hcap => ?_
  refine .ent ((Picks.ent (a := [EsD ys]) picks).trans ((Ent.dup EsD.pers).trans (Ent.of (Y := RLd y.A m.idx m.es) fun r h => by have := EsD.at (List.mem_of_getElem? hy) h; rw [hym] at this; exact this))) ?_
  refine .rld fun ees hees => ?_
  have helen := les_len hees
  have hde : ∀ z ∈ ees, z.e.data.length ≤ 140737488351232 := fun z hz => by
    obtain ⟨j, hj⟩ := List.mem_iff_getElem?.1 hz
    obtain ⟨en, h1, h2⟩ := les_at hees hj
    rw [h2]; exact hmd en (List.mem_of_getElem? h1)
  have hC := copyLog_n (A := y.A) (cp := y.c) (l := ees) (by omega) hde
  rw [helen] at hC
  refine run ?_
  refine .new fun z9 => ?_
  refine run ?_
  have hzy : encM y.m y.A y.c = encM m y.A y.c := by rw [hym]
  refine .ent ((Picks.ent (a := [Blk true z9 (encM y.m y.A y.c) 59]) picks).trans (.of (Y := Blk true z9 (encM m y.A y.c) 59) fun r h => by rw [← hzy]; exact h)) ?_
  refine W.joinI (ι := Option Addr × Nat) (fun _ => True) (fun _ => [(0, pt bw), (1, nv j), (2, iv dr), (9, pt z9)]) (fun i => [Blk true z9 (encM m y.A y.c) 59, Rd false y.A (ees.flatMap encLE), Ds ees, Blk true bw (wcells c { a with NA := i.1, nn := (netOf ag j net).length, nc := i.2 }) 43, NetP i.1 (netOf ag j net).length i.2 (netOf ag j net), Gr 1 35 a.SA c.n a.sc (ps.map pt), Blk true bs (scells x s) 52, NodX x.bo x.a c s, RLd x.lA s.snap (s.log.drop s.snap), MapsP G a.mL a.mV a.mK a.mT]) ?_ fun tail => ?_
  case' refine_2 =>
    cases ag with
    | true =>
      have e1 : netOf true j net = net := if_pos rfl
      rw [e1] at tail
      rw [← hnn] at tail
      refine .condF rfl ?_
      refine .skip ?_
      refine .ent ((Picks.ent (a := [Gr 10 59 a.NA a.nn a.nc (ys.flatMap encL), EsD ys]) picks).trans (NetP.close hys)) ?_
      exact .back (tail (a.NA, a.nc) trivial)
    | false =>
      have e1 : netOf false j net = net.eraseIdx j := if_neg (by decide)
      rw [e1] at tail
      have hfr : ys.flatMap encL = (ys.take j).flatMap encL ++ (ys.drop j).flatMap encL := by rw [← List.flatMap_append, List.take_append_drop]
      have hX1 : Reads (Gr 10 59 a.NA a.nn a.nc (ys.flatMap encL)) a.NA ((ys.take j).flatMap encL) := by rw [hfr]; exact Gr.reads
      have hX2 : Reads (Gr 10 59 a.NA a.nn a.nc (ys.flatMap encL)) (if a.nc = j + 1 then a.NA else adr a.NA ((j + 1) * 10)) ((ys.drop (j + 1)).flatMap encL) := fun r h => dropRdM (j + 1) a.nc h.rd.lend (by omega) (by omega)
      refine .condT rfl ?_
      refine .seq ?_
      refine .region ?_
      refine runR ?_
      refine .seq ?_
      refine .region ?_
      refine runR ?_
      refine .quiet rfl rfl rfl (Q.sliceTo (hi := j) rfl rfl rfl rfl rfl rfl (by omega)) ?_
      refine .ent (Picks.ent (a := [Gr 10 59 a.NA a.nn a.nc (ys.flatMap encL)]) picks) ?_
      refine .ent (Ent.mk (X := Gr 10 59 none 0 0 []) fun r => .nil) ?_
      refine .push (sz := 10) (nn := 0) (m := j) (Src.pick rfl rfl .hd hX1 (by rw [flat_len lenLM, List.length_take]; congr 1; omega) rfl (oneLM _)) fun A2 c2 => ?_
      simp only [Nat.zero_add, List.nil_append]
      refine runR ?_
      refine .region ?_
      refine runR ?_
      refine .quiet rfl rfl rfl (Q.sliceFrom (lo := j + 1) rfl rfl rfl rfl rfl rfl (by omega)) ?_
      refine .push (sz := 10) (nn := j) (m := a.nn - (j + 1)) (Src.pick rfl rfl .hd hX2 (by rw [flat_len lenLM, List.length_drop, hyl, ← hnn]) rfl (oneLM _)) fun A3 c3 => ?_
      have hnj : j + (a.nn - (j + 1)) = (net.eraseIdx j).length := by rw [List.length_eraseIdx, if_pos hjl]; omega
      have hfe : (ys.take j).flatMap encL ++ (ys.drop (j + 1)).flatMap encL = (ys.eraseIdx j).flatMap encL := by rw [List.eraseIdx_eq_take_drop_succ, List.flatMap_append]
      rw [hnj, hfe]
      refine runR ?_
      refine .ent ((Picks.ent (a := [EsD ys]) picks).trans (.of (Y := EsD (ys.eraseIdx j)) fun r h => by unfold EsD at *; exact fun y hy => h y (List.mem_of_mem_eraseIdx hy))) ?_
      refine .ent ((Picks.ent (a := [Gr 10 59 A3 (net.eraseIdx j).length c3 ((ys.eraseIdx j).flatMap encL), EsD (ys.eraseIdx j)]) picks).trans (NetP.close (ms := net.eraseIdx j) (by rw [List.eraseIdx_eq_take_drop_succ, List.eraseIdx_eq_take_drop_succ, List.map_append, List.map_take, List.map_drop, hys]))) ?_
      exact .back (tail (A3, c3) trivial)
  rintro ⟨NA, nc⟩ _
  dsimp only
  have hnl2 : (netOf ag j net).length ≤ 100000 := by
    unfold netOf; split
    · exact hnl
    · have := List.length_eraseIdx_le net j; omega
  obtain ⟨a2, ha2⟩ : ∃ a2 : WC, a2 = { a with NA := NA, nn := (netOf ag j net).length, nc := nc } := ⟨_, rfl⟩
  have hSA : a2.SA = a.SA := by rw [ha2]
  have hw := hw NA nc
  rw [← ha2] at hw ⊢
  refine run ?_
  refine W.plan [] mixed (by rfl) (by kernel_rfl) ?_
  refine run ?_
  refine .callN hC (Picks.sub (a := [Rd false y.A (ees.flatMap encLE), Ds ees]) picks) ?_
  rintro v M ⟨l', A2, c2, rfl, h2, rfl⟩
  rw [hees] at h2
  have hl2 := les_len h2
  refine run ?_
  rw [hl2]
  refine W.fact (fun w h => Gr.cap (h.ent (Picks.ent (a := [Gr 3 67 A2 m.es.length c2 (l'.flatMap encLE)]) picks))) fun hcap2 => ?_
  have hdl : ∀ z ∈ l', z.e.data.length ≤ 140737488351232 := fun z hz => by
    obtain ⟨j, hj⟩ := List.mem_iff_getElem?.1 hz
    obtain ⟨en, h3, h4⟩ := les_at h2 hj
    rw [h4]; exact hmd en (List.mem_of_getElem? h3)
  rw [← hSA]
  have hRs : Reads (Gr 1 35 a2.SA c.n a.sc (ps.map pt)) a2.SA (ps.map pt) := .gr
  refine W.fact (fun w h => IsA.of (k := m.dst - 1) hRs (by exact pick) (by rw [List.length_map]; omega) h) fun hB => ?_
  have hw := hw A2 c2 (Gr 3 67 A2 m.es.length c2 (l'.flatMap encLE)) (Gs l') ⟨l', [], .gr, nilReads, DRead.gs, (fun r h z hz => nomatch hz), h2, rfl, rfl, by rw [hl2]; exact hcap2, by omega, by simp, hdl, by simp⟩
  refine W.plan [] mixed (by rfl) (by kernel_rfl) ?_
  refine run ?_
  refine RG.hit 67 rfl (by congr 1; omega : _ = nv (m.dst - 1)) ?_
  refine run ?_
  refine RG.take rfl rfl rfl rfl (R.load (v := pt bs) rfl rfl rfl rfl hRs pick (by rw [Nat.mul_one]; simp [hp])) ?_ rfl
  refine run ?_
  refine .callE hw ?_
  rintro v L ⟨i, hi, rfl, rfl⟩
  refine run ?_
  exact .retE Tryz.func25 ⟨i, hi, rfl, rfl⟩
theorem netOf_len (h : net.length ≤ 100000) : (netOf ag j net).length ≤ 100000 := by
  unfold netOf; split
  · exact h
  · have := List.length_eraseIdx_le net j; omega
theorem arrive_n (hE : EvGo c s (evM m dr) [] s' r 0) (H : DoneOk (evM m dr) r s dB s') (hr : r.Ok) (T : TelOk G x s' r a.hi) (hlc : s.log.length - s.snap ≤ x.lc) (K : Ari c bs a net ps m j) :
    Fn Tryz.prog 25 [pt bw, nv j, iv dr, .bool ag].toArray
    [Blk true bw (wcells c a) 43, Gr 1 35 a.SA c.n a.sc (ps.map pt), Blk true bs (scells x s) 52, NodX x.bo x.a c s, RLd x.lA s.snap (s.log.drop s.snap), MapsP G a.mL a.mV a.mK a.mT, NetP a.NA a.nn a.nc net]
    (fun v L => ∃ hi NA nc lA lc, a.hi ≤ hi ∧ hi ≤ max a.hi r.commit ∧ s'.log.length - s'.snap ≤ lc ∧ v = .bool true ∧
      L = [Blk true bw (wcells c { a with hi := hi, NA := NA, nn := (trim a.calm (netOf ag j net ++ r.ms)).length, nc := nc }) 43, Gr 1 35 a.SA c.n a.sc (ps.map pt), Blk true bs (scells { x with lA := lA, lc := lc, cm := r.commit, mo := max x.mo r.commit, ro := r.role, le := r.leader } s') 52, NodX x.bo x.a c s', RLd lA s'.snap (s'.log.drop s'.snap), MapsP G a.mL a.mV a.mK a.mT, NetP NA (trim a.calm (netOf ag j net ++ r.ms)).length nc (trim a.calm (netOf ag j net ++ r.ms))]) := by
  refine (arrive_g (bw := bw) (dr := dr) (G := G) (x := x) (s := s) (ag := ag) (ι := Nat × Option Addr × Nat × Option Addr × Nat) (φ := fun i => a.hi ≤ i.1 ∧ i.1 ≤ max a.hi r.commit ∧ s'.log.length - s'.snap ≤ i.2.2.2.2) (er := fun _ => 0)
    (Q1 := fun i => Blk true bw (wcells c { a with hi := i.1, NA := i.2.1, nn := (trim a.calm (netOf ag j net ++ r.ms)).length, nc := i.2.2.1 }) 43) (Q2 := fun i => Blk true bs (scells { x with lA := i.2.2.2.1, lc := i.2.2.2.2, cm := r.commit, mo := max x.mo r.commit, ro := r.role, le := r.leader } s') 52) (Q3 := fun _ => NodX x.bo x.a c s') (Q4 := fun i => RLd i.2.2.2.1 s'.snap (s'.log.drop s'.snap)) (Q5 := fun _ => MapsP G a.mL a.mV a.mK a.mT) (Q6 := fun i => NetP i.2.1 (trim a.calm (netOf ag j net ++ r.ms)).length i.2.2.1 (trim a.calm (netOf ag j net ++ r.ms)))
    K fun NA nc A2 cp X D hI => ?_).mono ?_
  · refine (wstep_n (bw := bw) (bs := bs) (a := { a with NA := NA, nn := (netOf ag j net).length, nc := nc }) (x := x) (c := c) (net := netOf ag j net) (X := X) (D := D) (hE.at A2 cp none 0 0) hI (H.at A2 cp none 0 0) hr T hlc rfl (netOf_len K.nl)).mono ?_
    rintro v L ⟨hi, NA, nc, lA, lc, b1, b2, b3, rfl, rfl⟩
    exact ⟨_, .refl _, (hi, NA, nc, lA, lc), ⟨b1, b2, b3⟩, rfl, rfl⟩
  · rintro v L ⟨⟨hi, NA, nc, lA, lc⟩, ⟨b1, b2, b3⟩, rfl, rfl⟩
    exact ⟨_, .refl _, hi, NA, nc, lA, lc, b1, b2, b3, rfl, rfl⟩
theorem arrive_e {err : Nat} (hE : EvGo c s (evM m dr) [] s {} (err : Nat)) (h0 : err ≠ 0) (K : Ari c bs a net ps m j) :
    Fn Tryz.prog 25 [pt bw, nv j, iv dr, .bool ag].toArray
    [Blk true bw (wcells c a) 43, Gr 1 35 a.SA c.n a.sc (ps.map pt), Blk true bs (scells x s) 52, NodX x.bo x.a c s, RLd x.lA s.snap (s.log.drop s.snap), MapsP G a.mL a.mV a.mK a.mT, NetP a.NA a.nn a.nc net]
    (fun v L => ∃ NA nc, v = .bool true ∧
      L = [Blk true bw (wcells c { a with NA := NA, nn := (netOf ag j net).length, nc := nc }) 43, Gr 1 35 a.SA c.n a.sc (ps.map pt), Blk true bs (scells x s) 52, NodX x.bo x.a c s, RLd x.lA s.snap (s.log.drop s.snap), MapsP G a.mL a.mV a.mK a.mT, NetP NA (netOf ag j net).length nc (netOf ag j net)]) := by
  refine (arrive_g (bw := bw) (dr := dr) (G := G) (x := x) (s := s) (ag := ag) (ι := Option Addr × Nat) (φ := fun _ => True) (er := fun _ => err)
    (Q1 := fun i => Blk true bw (wcells c { a with NA := i.1, nn := (netOf ag j net).length, nc := i.2 }) 43) (Q2 := fun i => Blk true bs (scells x s) 52) (Q3 := fun _ => NodX x.bo x.a c s) (Q4 := fun i => RLd x.lA s.snap (s.log.drop s.snap)) (Q5 := fun _ => MapsP G a.mL a.mV a.mK a.mT) (Q6 := fun i => NetP i.1 (netOf ag j net).length i.2 (netOf ag j net))
    K fun NA nc A2 cp X D hI => ?_).mono ?_
  · refine (wstep_e (bw := bw) (bs := bs) (a := { a with NA := NA, nn := (netOf ag j net).length, nc := nc }) (x := x) (d := s) (c := c) (net := netOf ag j net) (X := X) (D := D) (hE.at A2 cp none 0 0) hI h0).mono ?_
    rintro v L ⟨rfl, rfl⟩
    exact ⟨_, .refl _, (NA, nc), trivial, rfl, rfl⟩
  · rintro v L ⟨⟨NA, nc⟩, _, rfl, rfl⟩
    exact ⟨_, .refl _, NA, nc, rfl, rfl⟩
end
end Go.SL
namespace Go.SL
open Go.Proofs Go.Proofs.YtocogcgnahbpkaaGreat
open Rs (Nd)
set_option maxRecDepth 10000
attribute [local irreducible] W RS RG RT RD Fn FnQ OpS QOp Own Sat Rd Gr Mp Rg Lg Ms Es Nod Rp NodI RLg RMs REs RN RLd RNF EsD MsD NBk BkP BkRd BothI MapsP KnD NetP
abbrev StepP (c : Rf.Cfg) (bw bs : Nat) (a : WC) (x : SC) (s : Nd) (G : MG) (net : List Rf.Msg) : List HP :=
  [Blk true bw (wcells c a) 43, Blk true bs (scells x s) 52, NodX x.bo x.a c s, RLd x.lA s.snap (s.log.drop s.snap), MapsP G a.mL a.mV a.mK a.mT, NetP a.NA a.nn a.nc net]
def Step2 (c : Rf.Cfg) (bw bs : Nat) (a : WC) (x : SC) (G : MG) (net : List Rf.Msg) (s' : Nd) (r : Rdy) (v0 : Value) : Fin := fun v L => ∃ hi NA nc lA lc, a.hi ≤ hi ∧ hi ≤ max a.hi r.commit ∧ s'.log.length - s'.snap ≤ lc ∧ v = v0 ∧
  L = StepP c bw bs { a with hi := hi, NA := NA, nn := (trim a.calm (net ++ r.ms)).length, nc := nc } { x with lA := lA, lc := lc, cm := r.commit, mo := max x.mo r.commit, ro := r.role, le := r.leader } s' G (trim a.calm (net ++ r.ms))
structure StIn (e : EV) (a : WC) (x : SC) (s : Nd) (G : MG) (net : List Rf.Msg) (s' : Nd) (r : Rdy) : Prop where
  done : ∃ dB, DoneOk e r s dB s'
  ok : r.Ok
  tel : TelOk G x s' r a.hi
  lc : s.log.length - s.snap ≤ x.lc
  nn : a.nn = net.length
  nl : net.length ≤ 100000
section
variable {c : Rf.Cfg} {bw bs : Nat} {a : WC} {x : SC} {s s' : Nd} {G : MG} {r : Rdy} {net : List Rf.Msg} {e : EV} {k : Int}
theorem evIn0 (he : e.A = none ∧ e.dA = none ∧ e.dn = 0 ∧ e.m.es = []) : EvIn e [] (Rd false none []) (Ds []) := by
  obtain ⟨h1, h2, h3, h4⟩ := he
  refine ⟨[], [], ?_, ?_, fun _ h => h, (fun _ _ z hz => nomatch hz), ?_, rfl, h3, Nat.zero_le _, by simp, by simp, by simp, by simp⟩
  · rw [h1]; exact nilReads
  · rw [h2]; exact nilReads
  · rw [h4]; rfl
theorem wstep0_n (hE : EvGo c s e [] s' r 0) (he : e.A = none ∧ e.dA = none ∧ e.dn = 0 ∧ e.m.es = []) (H : StIn e a x s G net s' r) :
    Fn Tryz.prog 15 [pt bw, pt bs, .agg (encV e).toArray].toArray (StepP c bw bs a x s G net) (Step2 c bw bs a x G net s' r (.tuple #[iv 0, .bool true])) := by
  obtain ⟨⟨dB, h1⟩, h2, h3, h4, h5, h6⟩ := H
  refine ((wstep_n (bw := bw) (bs := bs) (a := a) (x := x) (net := net) (X := Rd false none []) (D := Ds []) hE (evIn0 he) h1 h2 h3 h4 h5 h6).mono ?_).pre ?_
  · rintro v L ⟨hi, NA, nc, lA, lc, b1, b2, b3, rfl, rfl⟩
    exact ⟨_, Picks.sub picks, hi, NA, nc, lA, lc, b1, b2, b3, rfl, rfl⟩
  · exact (Ent.mk (X := Ds []) fun r => ds_nil).trans ((Ent.mk (X := Rd false none []) fun r => .nil).trans (Picks.sub picks))
theorem wstep0_e {err : Nat} (hE : EvGo c s e [] s {} (err : Nat)) (he : e.A = none ∧ e.dA = none ∧ e.dn = 0 ∧ e.m.es = []) (h0 : err ≠ 0) :
    Fn Tryz.prog 15 [pt bw, pt bs, .agg (encV e).toArray].toArray (StepP c bw bs a x s G net) (Det (.tuple #[nv err, .bool true]) (StepP c bw bs a x s G net)) := by
  refine ((wstep_e (bw := bw) (bs := bs) (a := a) (x := x) (net := net) (G := G) (d := s) (X := Rd false none []) (D := Ds []) hE (evIn0 he) h0).mono ?_).pre ?_
  · rintro v L ⟨rfl, rfl⟩
    exact ⟨_, Picks.sub picks, rfl, rfl⟩
  · exact (Ent.mk (X := Ds []) fun r => ds_nil).trans ((Ent.mk (X := Rd false none []) fun r => .nil).trans (Picks.sub picks))
theorem compact_no (h : x.cm ≤ s.snap) : Fn Tryz.prog 26 [pt bw, pt bs, iv k].toArray (StepP c bw bs a x s G net) (Det (.bool true) (StepP c bw bs a x s G net)) := by
  refine Fn.enter Tryz.func26 rfl (by kernel_rfl) rfl ?_
  refine run ?_
  refine W.plan [] mixed (by rfl) (by kernel_rfl) ?_
  refine run ?_
  exact .retD Tryz.func26
theorem compact_w (h : s.snap < x.cm) (hb : x.cm ≤ 1000000) (hE : EvGo c s (evC (wholeN k (s.snap + 1) x.cm)) [] s' r 0) (H : StIn (evC (wholeN k (s.snap + 1) x.cm)) a x s G net s' r) :
    Fn Tryz.prog 26 [pt bw, pt bs, iv k].toArray (StepP c bw bs a x s G net) (Step2 c bw bs a x G net s' r (.bool true)) := by
  have hw := wstep0_n (bw := bw) (bs := bs) hE ⟨rfl, rfl, rfl, rfl⟩ H
  refine Fn.enter Tryz.func26 rfl (by kernel_rfl) rfl ?_
  refine run ?_
  refine W.plan [] mixed (by rfl) (by kernel_rfl) ?_
  refine run ?_
  refine W.plan [13] mixed (by rfl) (by kernel_rfl) ?_
  refine run ?_
  refine RG.hit 28 rfl (by congr 1 : _ = nv (s.snap + 1)) ?_
  refine .callQ (whole_q (lo := s.snap + 1) (hi := x.cm) (n := k) (by omega) (by omega)) ?_
  refine run ?_
  refine .callE hw ?_
  rintro v L ⟨hi, NA, nc, lA, lc, b1, b2, b3, rfl, rfl⟩
  refine run ?_
  exact .retE Tryz.func26 ⟨hi, NA, nc, lA, lc, b1, b2, b3, rfl, rfl⟩
theorem install_self (h : s.snap ≤ x.cm) : Fn Tryz.prog 27 [pt bw, pt bs, pt bs].toArray (StepP c bw bs a x s G net) (Det (.bool true) (StepP c bw bs a x s G net)) := by
  refine Fn.enter Tryz.func27 rfl (by kernel_rfl) rfl ?_
  refine run ?_
  refine W.plan [] mixed (by rfl) (by kernel_rfl) ?_
  refine run ?_
  exact .retD Tryz.func27
section
variable {b2 : Nat} {x2 : SC} {s2 : Nd}
theorem install_no (h : s2.snap ≤ x.cm ∨ s.term < s2.tm s2.snap ∨ x.ro = 4) :
    Fn Tryz.prog 27 [pt bw, pt bs, pt b2].toArray (Blk true b2 (scells x2 s2) 52 :: StepP c bw bs a x s G net) (Det (.bool true) (Blk true b2 (scells x2 s2) 52 :: StepP c bw bs a x s G net)) := by
  refine Fn.enter Tryz.func27 rfl (by kernel_rfl) rfl ?_
  by_cases h1 : s2.snap ≤ x.cm
  · refine run ?_
    refine W.plan [] mixed (by rfl) (by kernel_rfl) ?_
    refine run ?_
    exact .retD Tryz.func27
  · by_cases h2 : s.term < s2.tm s2.snap
    · refine run ?_
      refine W.plan [] mixed (by rfl) (by kernel_rfl) ?_
      refine run ?_
      exact .retD Tryz.func27
    · have h3 : x.ro = 4 := by omega
      refine run ?_
      refine W.plan [] mixed (by rfl) (by kernel_rfl) ?_
      refine run ?_
      exact .retD Tryz.func27
theorem install_w (h1 : x.cm < s2.snap) (h2 : s2.tm s2.snap ≤ s.term) (h3 : x.ro ≠ 4) (hE : EvGo c s (evI s2.snap (s2.tm s2.snap)) [] s' r 0) (H : StIn (evI s2.snap (s2.tm s2.snap)) a x s G net s' r) :
    Fn Tryz.prog 27 [pt bw, pt bs, pt b2].toArray (Blk true b2 (scells x2 s2) 52 :: StepP c bw bs a x s G net) (fun v L => ∃ M, L = Blk true b2 (scells x2 s2) 52 :: M ∧ Step2 c bw bs a x G net s' r (.bool true) v M) := by
  have hw := wstep0_n (bw := bw) (bs := bs) hE ⟨rfl, rfl, rfl, rfl⟩ H
  refine Fn.enter Tryz.func27 rfl (by kernel_rfl) rfl ?_
  refine run ?_
  refine W.plan [] mixed (by rfl) (by kernel_rfl) ?_
  refine run ?_
  refine .callE hw ?_
  rintro v L ⟨hi, NA, nc, lA, lc, b1, b2', b3, rfl, rfl⟩
  refine run ?_
  exact .retE Tryz.func27 ⟨_, rfl, hi, NA, nc, lA, lc, b1, b2', b3, rfl, rfl⟩
end
end
end Go.SL
