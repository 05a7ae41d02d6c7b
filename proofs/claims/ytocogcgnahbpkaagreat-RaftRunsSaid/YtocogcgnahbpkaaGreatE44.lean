/-
  A part of the proof of what E53 says at its head.
-/
import Derived.Test.YtocogcgnahbpkaaGreatE43
namespace Go.SL
open Go.Proofs Go.Proofs.YtocogcgnahbpkaaGreat
open Rs (Nd)
set_option maxRecDepth 10000
attribute [local irreducible] W RS RG RT RD Fn FnQ OpS QOp Own Sat Rd Gr Mp Rg Lg Ms Es Nod Rp NodI RLg RMs REs RN RLd RNF EsD MsD NBk BkP BkRd BothI MapsP KnD NetP
section
variable {c : Rf.Cfg} {bw : Nat} {w : WS} {q : ST} {Φ : WS → Prop} {e : AV} {X D : HP} {lbs : List LB}
theorem act_proposed {s' : Nd} {r : Rdy} {G : MG} (hn : 1 ≤ c.n ∧ c.n ≤ 5) (hl : w.S.length = c.n) (hk : e.kind = 4) (hq : w.S[wholeN e.node 0 (c.n - 1)]? = some q) (hX : Reads X e.dA (lbs.map vB)) (hD : DReadB D lbs) (hdn : e.dn = lbs.length) (h24 : lbs.length * 24 ≤ 140737488351232) (hld : ∀ x ∈ lbs, x.data.length ≤ 140737488351232)
    (h1 : MG.le w.G G) (h2 : EvGo c q.s evP (lbs.map (·.data)) s' r 0) (h3 : StIn evP w.a q.x q.s G w.net s' r) (h4 : Keeps Φ w (wholeN e.node 0 (c.n - 1)) q w.net G s' r) (h5 : r.role = 4 ∧ 1 ≤ lbs.length ∧ lbs.length ≤ 16) :
    Fn Tryz.prog 10 [pt bw, .agg (encA e).toArray].toArray (WP c bw w ++ [X, D]) (fun v L => ∃ w', Φ w' ∧ v = .bool true ∧ L = WP c bw w' ++ [X, D]) := by
  have hS := seat_q (bw := bw) (a := w.a) (ps := w.S.map (·.bs)) (i := e.node) hn (by rw [List.length_map, hl]) (p := q.bs) (by rw [List.getElem?_map, hq]; rfl)
  obtain ⟨⟨dB, g1⟩, g2, g3, g4, g5, g6⟩ := h3
  have hw := wstep_n (bw := bw) (bs := q.bs) (a := w.a) (x := q.x) (net := w.net) (X := X) (D := D) (h2.at none 0 e.dA e.dn e.dc) ⟨[], lbs, nilReads, hX, (fun _ _ z hz => nomatch hz), hD, rfl, rfl, hdn, Nat.zero_le _, by simp, h24, by simp, hld⟩ (g1.at none 0 e.dA e.dn e.dc) g2 g3 g4 g5 g6
  refine Fn.pre ?_ ((seat_out hq h1).frame (k := [X, D]))
  refine Fn.enter Tryz.func10 rfl (by kernel_rfl) rfl ?_
  refine run ?_
  refine .box fun z3 => ?_
  refine run ?_
  refine .callQ hS ?_
  refine run ?_
  refine .callE hw ?_
  rintro v L ⟨hi, NA, nc, lA, lc, b1, b2, b3, rfl, rfl⟩
  obtain ⟨x2, hx2⟩ : ∃ x2 : SC, x2 = { q.x with lA := lA, lc := lc, cm := r.commit, mo := max q.x.mo r.commit, ro := r.role, le := r.leader } := ⟨_, rfl⟩
  have hx3 : x2.ro = 4 := by rw [hx2]; exact h5.1
  rw [← hx2]
  refine run ?_
  refine .quiet rfl rfl rfl (Q.eqB rfl rfl rfl Tryz.underlying4) ?_
  refine run ?_
  subst hx2
  refine .ent ((Picks.ent (a := StepP c bw q.bs { w.a with hi := hi, NA := NA, nn := (trim w.a.calm (w.net ++ r.ms)).length, nc := nc } { q.x with lA := lA, lc := lc, cm := r.commit, mo := max q.x.mo r.commit, ro := r.role, le := r.leader } s' G (trim w.a.calm (w.net ++ r.ms)) ++ [seatB c w, Sl (SeatP c) (w.S.eraseIdx (wholeN e.node 0 (c.n - 1))), Rd false w.a.pA (peersL c)]) picks).trans ((seat_back (w := w) (i := wholeN e.node 0 (c.n - 1)) (q := q) (G := G) (a' := { w.a with hi := hi, NA := NA, nn := (trim w.a.calm (w.net ++ r.ms)).length, nc := nc }) (q' := ⟨q.bs, { q.x with lA := lA, lc := lc, cm := r.commit, mo := max q.x.mo r.commit, ro := r.role, le := r.leader }, s'⟩) (net' := trim w.a.calm (w.net ++ r.ms)) hq rfl ⟨rfl, rfl, rfl⟩).frame)) ?_
  exact .retE Tryz.func10 ⟨w.step (wholeN e.node 0 (c.n - 1)) q w.net G s' r hi NA nc lA lc, h4 hi NA nc lA lc b1 b2 b3, rfl, rfl⟩
theorem act_refused {err : Nat} (hn : 1 ≤ c.n ∧ c.n ≤ 5) (hl : w.S.length = c.n) (hk : e.kind = 4) (hq : w.S[wholeN e.node 0 (c.n - 1)]? = some q) (hX : Reads X e.dA (lbs.map vB)) (hD : DReadB D lbs) (hdn : e.dn = lbs.length) (h24 : lbs.length * 24 ≤ 140737488351232) (hld : ∀ x ∈ lbs, x.data.length ≤ 140737488351232)
    (h2 : EvGo c q.s evP (lbs.map (·.data)) q.s {} (err : Nat)) (h0 : err ≠ 0) (h3 : q.x.ro ≠ 4 ∨ lbs.length < 1 ∨ 16 < lbs.length ∨ err = 164) (hP : Φ w) :
    Fn Tryz.prog 10 [pt bw, .agg (encA e).toArray].toArray (WP c bw w ++ [X, D]) (fun v L => ∃ w', Φ w' ∧ v = .bool true ∧ L = WP c bw w' ++ [X, D]) := by
  have hS := seat_q (bw := bw) (a := w.a) (ps := w.S.map (·.bs)) (i := e.node) hn (by rw [List.length_map, hl]) (p := q.bs) (by rw [List.getElem?_map, hq]; rfl)
  have hw := wstep_e (bw := bw) (bs := q.bs) (a := w.a) (x := q.x) (net := w.net) (G := w.G) (d := q.s) (X := X) (D := D) (h2.at none 0 e.dA e.dn e.dc) ⟨[], lbs, nilReads, hX, (fun _ _ z hz => nomatch hz), hD, rfl, rfl, hdn, Nat.zero_le _, by simp, h24, by simp, hld⟩ h0
  refine Fn.pre ?_ ((seat_out hq ⟨fun _ _ => rfl, fun _ _ _ => rfl, fun _ _ _ h => h⟩).frame (k := [X, D]))
  have hset : w.S.set (wholeN e.node 0 (c.n - 1)) q = w.S := by
    obtain ⟨hi, he⟩ := List.getElem?_eq_some_iff.1 hq
    rw [← he]; exact List.set_getElem_self hi
  refine Fn.enter Tryz.func10 rfl (by kernel_rfl) rfl ?_
  refine run ?_
  refine .box fun z3 => ?_
  refine run ?_
  refine .callQ hS ?_
  refine run ?_
  refine .callE hw ?_
  rintro v L ⟨rfl, rfl⟩
  have hcs : q.x.ro ≠ 4 ∨ (q.x.ro = 4 ∧ lbs.length < 1) ∨ (q.x.ro = 4 ∧ 1 ≤ lbs.length ∧ 16 < lbs.length) ∨ (q.x.ro = 4 ∧ 1 ≤ lbs.length ∧ lbs.length ≤ 16 ∧ err = 164) := by omega
  rcases hcs with c1 | ⟨c1, c2⟩ | ⟨c1, c2, c3⟩ | ⟨c1, c2, c3, c4⟩
  all_goals
    refine run ?_
    refine .quiet rfl rfl rfl (Q.eqB rfl rfl rfl Tryz.underlying4) ?_
    refine run ?_
    refine .ent ((Picks.ent (a := StepP c bw q.bs w.a q.x q.s w.G w.net ++ [seatB c w, Sl (SeatP c) (w.S.eraseIdx (wholeN e.node 0 (c.n - 1))), Rd false w.a.pA (peersL c)]) picks).trans ((seat_back (w := w) (i := wholeN e.node 0 (c.n - 1)) (q := q) (G := w.G) (a' := w.a) (q' := q) (net' := w.net) hq rfl ⟨rfl, rfl, rfl⟩).frame)) ?_
    rw [hset]
    exact .retE Tryz.func10 ⟨w, hP, rfl, rfl⟩
end
end Go.SL
namespace Go.SL
open Go.Proofs Go.Proofs.YtocogcgnahbpkaaGreat
open Rs (Nd)
set_option maxRecDepth 10000
def fresh0 (k : Nat) : Nd := { id := k + 1 }
def seat0 (c : Rf.Cfg) (k bs p : Nat) : ST := ⟨bs, ⟨true, p, k + 1, none, 0, 0, 0, 1, 0⟩, Rs.rest c k (reb (fresh0 k) 0)⟩
structure World0 (c : Rf.Cfg) (w : WS) : Prop where
  S : w.S.length = c.n ∧ ∀ k q, w.S[k]? = some q → ∃ bs p, q = seat0 c k bs p
  net : w.net = [] ∧ w.a.nn = 0
  hi : w.a.hi = 0
  calm : w.a.calm = false
theorem esD_nil {r : Res} : EsD [] r := fun p hp => nomatch hp
theorem knD_nil {r : Res} : KnD [] r := fun p hp => nomatch hp
attribute [local irreducible] W RS RG RT RD Fn FnQ OpS QOp Own Sat Rd Gr Mp Rg Lg Ms Es Nod Rp NodI RLg RMs REs RN RLd RNF EsD MsD NBk BkP BkRd BothI MapsP KnD NetP
section
variable {c : Rf.Cfg} {pA : Option Addr} {pc : Nat} {G : MG}
theorem world_n (hc : CfgOk c) (hs : ∀ k, k < c.n → Sn c (reb (fresh0 k) 0) ∧ StOk c (reb (fresh0 k) 0)) :
    Fn Tryz.prog 8 [.agg (cfgV c 0 pA pc).toArray, .bool true].toArray [Rd false pA (peersL c)] (fun v L => ∃ bw w, World0 c w ∧ w.G = G ∧ v = pt bw ∧ L = WP c bw w) := by
  have hn := hc.n
  have hR : Reads (Rd false pA (peersL c)) pA (peersL c) := .rd
  refine Fn.enter Tryz.func8 rfl (by kernel_rfl) rfl ?_
  refine run ?_
  refine .box fun z2 => ?_
  refine run ?_
  refine .mkMap (k := 3) (kenc := nv) (venc := nv) fun mL => ?_
  refine .mkMap (k := 150) (kenc := encVt) (venc := nv) fun mV => ?_
  refine .mkMap (k := 3) (kenc := nv) (venc := encKn) fun mK => ?_
  refine .mkMap (k := 3) (kenc := nv) (venc := nv) fun mT => ?_
  refine run ?_
  refine .box fun bw => ?_
  refine run ?_
  refine .ent (Ent.mk (X := Gr 1 35 none 0 0 []) fun r => .nil) ?_
  refine .ent (Sl.nil (f := SeatP c)) ?_
  refine W.loopH (ι := List ST × Option Addr × Nat) (fun i => i.1.length ≤ c.n ∧ ∀ k q, i.1[k]? = some q → ∃ bs p, q = seat0 c k bs p) (fun i => [(1, .bool true), (2, pt z2), (5, pt bw), (6, nv i.1.length)])
    (fun i => [Blk true bw [iv 0, .slice pA c.n pc, nv c.least, nv c.most, nv c.beat, nv c.batch, .slice i.2.1 i.1.length i.2.2, .slice none 0 0, .map (some mL), .map (some mV), .map (some mK), .map (some mT), iv 0, .bool false] 43, Gr 1 35 i.2.1 i.1.length i.2.2 ((i.1.map (·.bs)).map pt), Sl (SeatP c) i.1, Mp Tryz.prog 3 nv nv mL [], Mp Tryz.prog 150 encVt nv mV [], Mp Tryz.prog 3 nv encKn mK [], Mp Tryz.prog 3 nv nv mT [], Rd false pA (peersL c), Blk true z2 (cfgV c 0 pA pc) 27]) (fun i => c.n - i.1.length) ([], none, 0) ⟨Nat.zero_le _, fun k q h => by simp at h⟩ subs (by exact Picks.sub picks) ?_
  rintro ⟨S, SA, sc⟩ ⟨hk, hS⟩ ih
  dsimp only at hk hS ih ⊢
  by_cases hlt : S.length < c.n
  · refine W.fact (fun w h => IsA.of (k := S.length) hR (by exact pick) (by rw [peers_len]; omega) h) fun hA => ?_
    refine run ?_
    refine .quiet rfl rfl rfl (R.load (v := nv (S.length + 1)) rfl rfl rfl rfl hR pick (by rw [Nat.mul_one]; exact peers_at hlt)) ?_
    refine run ?_
    refine .box fun bs => ?_
    refine run ?_
    obtain ⟨s1, s2⟩ := hs _ hlt
    have hB := begin_n (bw := bw) (bs := bs) (cm0 := 0) (mo := 0) (ro := 0) (le := 0) (lA := none) (lc := 0) (vB := .pointer none) (dr := (S.length : Int)) (pA := pA) (pc := pc) (r1 := .slice SA S.length sc) (r2 := .slice none 0 0) (r3 := .map (some mL)) (r4 := .map (some mV)) (r5 := .map (some mK)) (r6 := .map (some mT)) (r7 := iv 0) (r8 := .bool false) hc s1 s2 (fun x hx => nomatch hx)
    refine .ent ((Ent.mk (X := Ds []) fun r => ds_nil).trans ((Ent.mk (X := Rd false none []) fun r => .nil).trans (RLd.close (i := 0) (l := []) (les := []) rfl))) ?_
    refine .callE hB ?_
    rintro v L ⟨p, rfl, rfl⟩
    refine run ?_
    refine .lit fun z => ?_
    refine run ?_
    refine .push (sz := 1) (nn := S.length) (m := 1) (Src.pick (cs := [pt bs]) rfl rfl .hd .own rfl rfl rfl) fun A3 c3 => ?_
    refine run ?_
    have h2 := ih (S ++ [seat0 c S.length bs p], A3, c3) ⟨by dsimp only; rw [List.length_append]; exact hlt, fun k q hq => by
      dsimp only at hq
      rcases Nat.lt_trichotomy k S.length with h | h | h
      · rw [List.getElem?_append_left h] at hq; exact hS k q hq
      · subst h; rw [List.getElem?_concat_length] at hq; injection hq with hq; exact ⟨bs, p, hq.symm⟩
      · rw [List.getElem?_eq_none (by rw [List.length_append]; exact h)] at hq; cases hq⟩ (by dsimp only; rw [List.length_append]; simp only [List.length_singleton]; omega)
    dsimp only at h2
    simp only [List.length_append, List.length_singleton, List.map_append, List.map_cons, List.map_nil] at h2
    refine .ent ((Picks.ent (a := [Blk true bs (scells ⟨true, p, S.length + 1, none, 0, 0, 0, 1, 0⟩ (Rs.rest c S.length (reb (fresh0 S.length) 0))) 52, BothI p c (Rs.rest c S.length (reb (fresh0 S.length) 0)), RLd none 0 [], Sl (SeatP c) S]) picks).trans ((Ent.unstar (l := [_, _, _])).trans (Sl.snoc (f := SeatP c) (x := seat0 c S.length bs p)))) ?_
    exact .back h2
  · have hkl : S.length = c.n := by omega
    refine run ?_
    refine .ent (Ent.mk (X := KnD []) fun r => knD_nil) ?_
    refine .ent ((Picks.ent (a := [Mp Tryz.prog 3 nv nv mL [], Mp Tryz.prog 150 encVt nv mV [], Mp Tryz.prog 3 nv encKn mK [], Mp Tryz.prog 3 nv nv mT [], KnD []]) picks).trans (MapsP.shut (G := G) ⟨(fun _ _ h => nomatch h), (fun _ _ _ h => nomatch h), (fun _ _ h => nomatch h), (fun _ _ h => nomatch h), (fun _ _ h => nomatch h)⟩)) ?_
    rw [hkl]
    refine .ent (Ent.mk (X := Gr 10 59 none 0 0 []) fun r => .nil) ?_
    refine .ent (Ent.mk (X := EsD []) fun r => esD_nil) ?_
    refine .ent ((Picks.ent (a := [Gr 10 59 none 0 0 [], EsD []]) picks).trans (NetP.close (ys := []) (ms := []) rfl)) ?_
    exact .retE Tryz.func8 ⟨bw, ⟨⟨pA, pc, SA, sc, none, 0, 0, mL, mV, mK, mT, 0, false⟩, S, [], G⟩, ⟨⟨hkl, hS⟩, ⟨rfl, rfl⟩, rfl, rfl⟩, rfl, rfl, rfl⟩
end
end Go.SL
namespace Go.SL
open Go.Proofs Go.Proofs.YtocogcgnahbpkaaGreat
open Rs (Nd)
set_option maxRecDepth 10000
theorem cfgOf_ok (n l m b q : Int) : CfgOk (cfgOf n l m b q) := by
  have h1 := wholeN_in n (lo := 1) (hi := 5) (by omega)
  have h2 := wholeN_in l (lo := 2) (hi := 12) (by omega)
  have h3 := wholeN_in m (lo := 3) (hi := 15) (by omega)
  have h4 := wholeN_in b (lo := 1) (hi := wholeN l 2 12 - 1) (by omega)
  have h5 := wholeN_in q (lo := 1) (hi := 16) (by omega)
  refine ⟨h1, ⟨h4.1, ?_, ?_, ?_⟩, h5⟩
  · show wholeN b 1 (wholeN l 2 12 - 1) < wholeN l 2 12; omega
  · show wholeN l 2 12 ≤ wholeN l 2 12 + wholeN m 3 15; omega
  · show wholeN l 2 12 + wholeN m 3 15 ≤ 1000; omega
theorem sn0 {c : Rf.Cfg} {k : Nat} (hc : CfgOk c) (hk : k < c.n) : Sn c (reb (fresh0 k) 0) ∧ StOk c (reb (fresh0 k) 0) := by
  have h1 := hc.t
  have h2 := hc.b
  refine ⟨⟨rfl, rfl, hc.n, by omega, ⟨by show 1 ≤ k + 1; omega, hk⟩, Nat.zero_le _, ⟨Nat.le_refl _, Nat.le_refl _, Nat.zero_le _, Nat.zero_le _⟩, (fun e he => nomatch he), ⟨Nat.zero_le _, Nat.zero_le _⟩⟩, ⟨Nat.zero_le _, .inl rfl, ⟨⟨fun _ => rfl, fun _ => rfl⟩, Nat.zero_le _⟩, ⟨Nat.zero_le _, Nat.le_refl _, Nat.le_refl _⟩, trivial⟩⟩
theorem lenA (e : AV) : (encA e).length = 6 := rfl
attribute [local irreducible] W RS RG RT RD Fn FnQ OpS QOp Own Sat Rd Gr Mp Rg Lg Ms Es Nod Rp NodI RLg RMs REs RN RLd RNF EsD MsD NBk BkP BkRd BothI MapsP KnD NetP
section
variable {n l m b q : Int} {G : MG} {Ψ : Nat → WS → Prop} {X D : HP} {acts : List AV} {sA : Option Addr} {sc : Nat}
theorem runs_n (hX : Reads X sA (acts.flatMap encA)) (h0 : ∀ w, World0 (cfgOf n l m b q) w → w.G = G → Ψ 0 w)
    (hact : ∀ (k : Nat) (w : WS) (e : AV) (bw : Nat), Ψ k w → acts[k]? = some e → k < 400 → Fn Tryz.prog 10 [pt bw, .agg (encA e).toArray].toArray (WP (cfgOf n l m b q) bw w ++ [X, D]) (fun v L => ∃ w', Ψ (k + 1) w' ∧ v = .bool true ∧ L = WP (cfgOf n l m b q) bw w' ++ [X, D]))
    (hend : ∀ k w, Ψ k w → w.S.length = (cfgOf n l m b q).n ∧ ∀ (i : Nat) (p : ST), w.S[i]? = some p → p.x.bo = true ∧ Sn (cfgOf n l m b q) p.s) (hlone : Fn Tryz.prog 21 [].toArray [] (Det (.bool true) [])) :
    Fn Tryz.prog 6 [iv n, iv l, iv m, iv b, iv q, .slice sA acts.length sc].toArray [X, D] (fun v L => v = .bool true) := by
  have hC := config_n (n := n) (l := l) (m := m) (b := b) (q := q)
  have hc := cfgOf_ok n l m b q
  generalize cfgOf n l m b q = c at *
  have hn := hc.n
  refine Fn.enter Tryz.func6 rfl (by kernel_rfl) rfl ?_
  refine run ?_
  refine .callE hC ?_
  rintro v L ⟨pA, pc, rfl, rfl⟩
  refine run ?_
  refine .ent ((Picks.ent (a := [Gr 1 3 pA c.n pc (peersL c)]) picks).trans (.of (Y := Rd false pA (peersL c)) fun r h => h.rd.lend)) ?_
  refine .callE (world_n (G := G) hc fun k hk => sn0 hc hk) ?_
  rintro v L ⟨bw, w0, hw0, hG, rfl, rfl⟩
  refine run ?_
  refine .quiet rfl rfl rfl (Q.eqNilP (p := some ⟨bw, 0, none⟩) rfl rfl rfl rfl rfl) ?_
  refine run ?_
  refine W.loopH (ι := Nat × WS) (fun i => i.1 ≤ acts.length ∧ i.1 ≤ 400 ∧ Ψ i.1 i.2) (fun i => [(5, .slice sA acts.length sc), (13, pt bw), (14, nv i.1)]) (fun i => WP c bw i.2 ++ [X, D]) (fun i => acts.length - i.1) (0, w0) ⟨Nat.zero_le _, Nat.zero_le _, h0 w0 hw0 hG⟩ subs (by exact Picks.sub picks) ?_
  rintro ⟨k, w⟩ ⟨hk, hk4, hP⟩ ih
  dsimp only at hk hk4 hP ih ⊢
  by_cases hlt : k < acts.length ∧ k < 400
  · obtain ⟨hl1, hl2⟩ := hlt
    obtain ⟨e, he⟩ : ∃ e, acts[k]? = some e := ⟨_, List.getElem?_eq_getElem hl1⟩
    have hA2 := hact k w e bw hP he hl2
    refine W.fact (fun w h => IsA.of (k := k * 6) hX (by exact pick) (by rw [flat_len lenA]; omega) h) fun hA => ?_
    refine run ?_
    refine .callE hA2 ?_
    rintro v L ⟨w', h5, rfl, rfl⟩
    refine run ?_
    exact .back (ih (k + 1, w') ⟨by dsimp only; omega, by dsimp only; omega, h5⟩ (by dsimp only; omega))
  clear ih hact hC
  obtain ⟨hSl, hSq⟩ := hend k w hP
  clear hend
  have hcs : acts.length ≤ k ∨ (k < acts.length ∧ 400 ≤ k) := by omega
  clear hlt
  rcases hcs with h1 | ⟨h1, h2⟩
  all_goals
    refine run ?_
    refine W.loopH (ι := Nat) (fun i => i ≤ c.n) (fun i => [(13, pt bw), (16, nv i)]) (fun i => WP c bw w ++ [X, D]) (fun i => c.n - i) 0 (Nat.zero_le _) subs (by exact Picks.sub picks) ?_
    intro i hi ih
    by_cases hlt : i < c.n
    · obtain ⟨p, hp⟩ : ∃ p, w.S[i]? = some p := ⟨_, List.getElem?_eq_getElem (by omega)⟩
      obtain ⟨hp1, hp2⟩ := hSq i p hp
      have hRs : Reads (Gr 1 35 w.a.SA c.n w.a.sc ((w.S.map (·.bs)).map pt)) w.a.SA ((w.S.map (·.bs)).map pt) := .gr
      have hcl : scells p.x p.s = [nv p.x.id, .pointer none, pt p.x.a, nv p.s.term, nv p.s.vote, nv p.s.snap, nv (p.s.tm p.s.snap), .slice p.x.lA (p.s.log.length - p.s.snap) p.x.lc, nv p.x.cm, nv p.x.mo, nv p.x.ro, nv p.x.le] := by
        unfold scells ptIf; rw [hp1]; rfl
      refine W.fact (fun w h => IsA.of (k := i) hRs (by exact pick) (by rw [List.length_map, List.length_map]; omega) h) fun hA => ?_
      refine .ent ((Picks.ent (a := [Sl (SeatP c) w.S]) picks).trans ((Sl.out hp).trans (Ent.star (l := [_, _, _])))) ?_
      rw [hcl, hp1, show NodX true p.x.a c p.s = BothI p.x.a c p.s from rfl]
      refine run ?_
      refine .quiet rfl rfl rfl (R.load (v := pt p.bs) rfl rfl rfl rfl hRs pick (by rw [Nat.mul_one]; simp [hp])) ?_
      refine run ?_
      refine .callD (asked_n hp2) ?_
      refine run ?_
      rw [← hcl]
      refine .ent ((Picks.ent (a := [BothI p.x.a c p.s]) picks).trans (.of (Y := NodX p.x.bo p.x.a c p.s) fun r h => by rw [hp1]; exact h)) ?_
      refine .ent ((Picks.ent (a := [Blk true p.bs (scells p.x p.s) 52, NodX p.x.bo p.x.a c p.s, RLd p.x.lA p.s.snap (p.s.log.drop p.s.snap), Sl (SeatP c) (w.S.eraseIdx i)]) picks).trans ((Ent.unstar (l := [_, _, _])).trans (Sl.back (f := SeatP c) hp))) ?_
      exact .back (ih (i + 1) hlt (by omega))
    · refine run ?_
      refine .callD hlone ?_
      refine run ?_
      exact W.ret Tryz.func6 (by exact rvs) (.refl _) rfl
end
end Go.SL
namespace Go.SL
open Go.Proofs Go.Proofs.YtocogcgnahbpkaaGreat
open Rs (Nd)
set_option maxRecDepth 10000
abbrev c1 : Rf.Cfg := ⟨1, 2, 2, 1, 1⟩
def l0 : Nd := Rs.rest c1 0 (reb (fresh0 0) 0)
def l1 : Nd := (Rs.tick c1 0 l0).1
def l2 : Nd := (Rs.tick c1 0 l1).1
def l3 : Nd := (Rs.propose c1 [[7], [8]] l2).1
theorem l3_commit : l3.commit = 3 := by rfl
theorem l_o : (Rs.tick c1 0 l0).2 = [] ∧ (Rs.tick c1 0 l1).2 = [] ∧ (Rs.propose c1 [[7], [8]] l2).2 = [] := by refine ⟨?_, ?_, ?_⟩ <;> rfl
theorem l_log : l0.log = [] ∧ l1.log = [] ∧ l2.log = [⟨1, []⟩] ∧ l3.log = [⟨1, []⟩, ⟨1, [7]⟩, ⟨1, [8]⟩] := by refine ⟨?_, ?_, ?_, ?_⟩ <;> rfl
theorem l_sn : Sn c1 l0 ∧ Sn c1 l1 ∧ Sn c1 l2 ∧ Sn c1 l3 := by
  have hd2 : ∀ e ∈ l2.log, e.data.length ≤ 140737488351232 := by rw [l_log.2.2.1]; simp
  have hd3 : ∀ e ∈ l3.log, e.data.length ≤ 140737488351232 := by rw [l_log.2.2.2]; simp
  refine ⟨⟨rfl, rfl, ?_, ?_, ?_, ?_, ?_, (fun e he => nomatch he), ?_⟩, ⟨rfl, rfl, ?_, ?_, ?_, ?_, ?_, (fun e he => nomatch he), ?_⟩, ⟨rfl, rfl, ?_, ?_, ?_, ?_, ?_, hd2, ?_⟩, ⟨rfl, rfl, ?_, ?_, ?_, ?_, ?_, hd3, ?_⟩⟩
  all_goals decide
theorem l_role : l0.role = 1 ∧ l1.role = 1 ∧ l2.role = 4 ∧ l0.heir = 0 ∧ l1.heir = 0 ∧ l2.heir = 0 := by decide
theorem l_siz : Siz c1 l0 ∧ Siz c1 l1 ∧ Siz c1 l2 := ⟨⟨l_sn.1, by decide, by decide⟩, ⟨l_sn.2.1, by decide, by decide⟩, ⟨l_sn.2.2.1, by decide, by decide⟩⟩
def r1 : Rdy := rdyOf l0 l1 (fr l0.log l1.log) (0, 0) (Rs.tick c1 0 l0).2
def r2 : Rdy := rdyOf l1 l2 (fr l1.log l2.log) (0, 0) (Rs.tick c1 0 l1).2
def r3 : Rdy := rdyOf l2 l3 (fr l2.log l3.log) (l2.log.length + 1, l2.log.length + 2) (Rs.propose c1 [[7], [8]] l2).2
theorem l_go1 : EvGo c1 l0 (evT 0) [] l1 r1 0 := by
  refine ev_tick (e := evT 0) l_siz.1 rfl ⟨fun h => absurd h (by decide), fun h => absurd h (by decide), fun _ => rfl, by decide, by decide, by decide⟩ ⟨l_sn.2.1, .inl (by decide), by decide⟩
theorem l_go2 : EvGo c1 l1 (evT 0) [] l2 r2 0 := by
  refine ev_tick (e := evT 0) l_siz.2.1 rfl ⟨fun h => absurd h (by decide), fun h => absurd h (by decide), fun _ => rfl, by decide, by decide, by decide⟩ ⟨l_sn.2.2.1, .inr (by decide), by decide⟩
theorem l_go3 : EvGo c1 l2 evP [[7], [8]] l3 r3 0 := by
  refine ev_propose (e := evP) (data := [[7], [8]]) l_siz.2.2 rfl ?_ rfl rfl (by decide) (by decide) (by decide) ⟨l_sn.2.2.2, .inr (by decide), by decide⟩
  intro p hp
  have : oth c1 l2 = [] := by decide
  rw [this] at hp; cases hp
end Go.SL
namespace Go.SL
open Go.Proofs Go.Proofs.YtocogcgnahbpkaaGreat
open Rs (Nd)
set_option maxRecDepth 10000
attribute [local irreducible] W RS RG RT RD Fn FnQ OpS QOp Own Sat Rd Gr Mp Rg Lg Ms Es Nod Rp NodI RLg RMs REs RN RLd RNF EsD MsD NBk BkP BkRd BothI MapsP KnD NetP
abbrev rdGo (b : Nat) (c : Rf.Cfg) (s' : Nd) (r : Rdy) (K : List HP) : Fin := fun v L => ∃ EA ec MA mc SA sc, v = .tuple #[.agg (rdV r EA ec MA mc SA sc).toArray, iv 0, .bool true] ∧ L = BothI b c s' :: K
theorem nstep0 {c : Rf.Cfg} {s s' : Nd} {e : EV} {r : Rdy} {b : Nat} (hE : EvGo c s e [] s' r 0) (he : e.A = none ∧ e.dA = none ∧ e.dn = 0 ∧ e.m.es = []) (hr : r.Ok) (hrm : ∀ m ∈ r.ms, ∀ x ∈ m.es, x.data.length ≤ 140737488351232) (hre : ∀ x ∈ r.es, x.data.length ≤ 140737488351232) :
    Fn Tryz.prog 31 [pt b, .agg (encV e).toArray].toArray [BothI b c s] (rdGo b c s' r []) := by
  obtain ⟨h1, h2, h3, h4⟩ := he
  refine ((nstep_n (b := b) (X := Rd false none []) (D := Ds []) (mes := []) (lbs := []) hE hr (by rw [h1]; exact nilReads) (by rw [h2]; exact nilReads) (fun _ h => h) (fun _ _ z hz => nomatch hz) (by rw [h4]; rfl) rfl h3 (Nat.zero_le _) (by simp) (by simp) (by simp) (by simp) hrm hre).mono ?_).pre ?_
  · rintro v L ⟨EA, ec, MA, mc, SA, sc, rfl, rfl⟩
    exact ⟨_, Picks.sub picks, EA, ec, MA, mc, SA, sc, rfl, rfl⟩
  · exact (Ent.mk (X := Ds []) fun r => ds_nil).trans ((Ent.mk (X := Rd false none []) fun r => .nil).trans (Picks.sub picks))
def stq : Nat → Nd | 0 => l0 | 1 => l1 | 2 => l2 | _ => l3
theorem stq_sn : ∀ i, Sn c1 (stq i)
  | 0 => l_sn.1
  | 1 => l_sn.2.1
  | 2 => l_sn.2.2.1
  | _ + 3 => l_sn.2.2.2
abbrev lb2 (z23 z24 : Nat) : List LB := [⟨[7], some ⟨z23, 0, none⟩, 1⟩, ⟨[8], some ⟨z24, 0, none⟩, 1⟩]
abbrev ev3 (z25 : Nat) : List EV := [evT 0, evT 0, evP.at none 0 (some ⟨z25, 0, none⟩) 2 2]
theorem lone_step {b z23 z24 z25 : Nat} : ∀ i, i < 3 → ∃ ev r, (ev3 z25)[i]? = some ev ∧ Fn Tryz.prog 31 [pt b, .agg (encV ev).toArray].toArray [BothI b c1 (stq i), Blk true z25 ((lb2 z23 z24).map vB) 65, Blk true z24 ([8].map bc) 5, Blk true z23 ([7].map bc) 5] (rdGo b c1 (stq (i + 1)) r [Blk true z25 ((lb2 z23 z24).map vB) 65, Blk true z24 ([8].map bc) 5, Blk true z23 ([7].map bc) 5])
  | 0, _ => by
    refine ⟨evT 0, r1, rfl, ((nstep0 (b := b) l_go1 ⟨rfl, rfl, rfl, rfl⟩ ⟨by decide, by decide, (by decide), by decide⟩ (by decide) (by decide)).frame (.cons .hd .nil)).mono ?_⟩
    rintro v L ⟨M, ⟨EA, ec, MA, mc, SA, sc, rfl, rfl⟩, rfl⟩
    exact ⟨_, .refl _, EA, ec, MA, mc, SA, sc, rfl, rfl⟩
  | 1, _ => by
    refine ⟨evT 0, r2, rfl, ((nstep0 (b := b) l_go2 ⟨rfl, rfl, rfl, rfl⟩ ⟨by decide, by decide, (by decide), by decide⟩ (by decide) (by decide)).frame (.cons .hd .nil)).mono ?_⟩
    rintro v L ⟨M, ⟨EA, ec, MA, mc, SA, sc, rfl, rfl⟩, rfl⟩
    exact ⟨_, .refl _, EA, ec, MA, mc, SA, sc, rfl, rfl⟩
  | 2, _ => by
    refine ⟨evP.at none 0 (some ⟨z25, 0, none⟩) 2 2, r3, rfl, ((nstep_n (b := b) (e := evP.at none 0 (some ⟨z25, 0, none⟩) 2 2) (X := Blk true z25 ((lb2 z23 z24).map vB) 65) (D := Stars [Blk true z24 ([8].map bc) 5, Blk true z23 ([7].map bc) 5]) (mes := []) (lbs := lb2 z23 z24) (l_go3.at none 0 _ 2 2) ⟨by decide, by decide, (by decide), by decide⟩ nilReads .own (fun _ _ z hz => nomatch hz) ?_ rfl rfl rfl (Nat.zero_le _) (by simp) (by simp) (by simp) (by simp) (by decide) (by decide)).mono ?_).pre ?_⟩
    · intro r hr x hx
      rcases List.mem_cons.1 hx with rfl | hx
      · exact Reads.star2' .own r hr
      · rw [List.mem_singleton.1 hx]; exact Reads.star2 .own r hr
    · rintro v L ⟨EA, ec, MA, mc, SA, sc, rfl, rfl⟩
      refine ⟨_, ?_, EA, ec, MA, mc, SA, sc, rfl, rfl⟩
      exact (Picks.ent (a := [Stars [Blk true z24 ([8].map bc) 5, Blk true z23 ([7].map bc) 5]]) picks).trans ((Ent.star (l := [_, _])).trans (Picks.sub picks))
    · exact (Picks.ent (a := [Blk true z24 ([8].map bc) 5, Blk true z23 ([7].map bc) 5]) picks).trans ((Ent.unstar (l := [_, _])).trans (Picks.sub picks))
theorem lone_n : Fn Tryz.prog 21 [].toArray [] (Det (.bool true) []) := by
  have hc1 : CfgOk c1 := ⟨by decide, by decide, by decide⟩
  have s0 := sn0 (c := c1) (k := 0) hc1 (by decide)
  refine Fn.enter Tryz.func21 rfl (by kernel_rfl) rfl ?_
  refine run ?_
  refine .lit fun z9 => ?_
  refine run ?_
  refine .ent (Ent.mk (X := Ds []) fun r => ds_nil) ?_
  refine .ent (Ent.mk (X := Rd false none []) fun r => .nil) ?_
  refine .callE (begun_n (c := c1) (s := reb (fresh0 0) 0) (X := Blk true z9 [iv 1] 3) (Y := Rd false none []) (D := Ds []) (A := none) (cp := 0) (pA := some ⟨z9, 0, none⟩) (pc := 1) (mes := []) (d := 0) hc1 s0.1 s0.2 (reb_fresh _ _) (reb_blank _ _) .own .rd (fun _ h => h) rfl (fun x hx => nomatch hx)) ?_
  rintro v L ⟨b, rfl, rfl⟩
  refine run ?_
  refine .quiet rfl rfl rfl (Q.eqNilP (p := some ⟨b, 0, none⟩) rfl rfl rfl rfl rfl) ?_
  refine run ?_
  refine .lit fun z23 => ?_
  refine run ?_
  refine .lit fun z24 => ?_
  refine run ?_
  refine .lit fun z25 => ?_
  refine run ?_
  refine .lit fun z27 => ?_
  refine run ?_
  refine W.loopH (ι := Nat) (fun i => i ≤ 3) (fun i => [(1, pt b), (3, .slice (some ⟨z27, 0, none⟩) 3 3), (4, nv i)]) (fun i => [BothI b c1 (stq i), Blk true z27 ((ev3 z25).flatMap encV) 61, Blk true z25 ((lb2 z23 z24).map vB) 65, Blk true z24 ([8].map bc) 5, Blk true z23 ([7].map bc) 5]) (fun i => 3 - i) 0 (Nat.zero_le _) subs (by exact Picks.sub picks) ?_
  intro i hi ih
  have hRe : Reads (Blk true z27 ((ev3 z25).flatMap encV) 61) (some ⟨z27, 0, none⟩) ((ev3 z25).flatMap encV) := .own
  have hA : IsA (some ⟨z27, 0, none⟩) := ⟨z27, 0, rfl⟩
  by_cases hlt : i < 3
  · obtain ⟨ev, r, hev, hF⟩ := lone_step (b := b) (z23 := z23) (z24 := z24) (z25 := z25) i hlt
    refine run ?_
    refine .callE hF ?_
    rintro v L ⟨EA, ec, MA, mc, SA, sc, rfl, rfl⟩
    refine run ?_
    refine .new fun z5 => ?_
    refine run ?_
    refine .callD (asked_n (stq_sn (i + 1))) ?_
    refine run ?_
    exact .back (ih (i + 1) hlt (by omega))
  · have hi3 : i = 3 := by omega
    subst hi3
    refine .bothI fun pp h x hh => ?_
    refine .nbk fun LA ln lc MA mc bl hbl hbll hblb => ?_
    refine run ?_
    refine W.hit 0 rfl (by rw [show (stq 3).commit = 3 from l3_commit]; rfl : _ = .bool true) ?_
    exact W.ret (L' := []) Tryz.func21 (by exact rvs) (fun _ _ => trivial) ⟨rfl, rfl⟩
end Go.SL
