/-
  A part of the proof of what E53 says at its head.
-/
import Derived.Test.YtocogcgnahbpkaaGreatE38
namespace Go.SL
open Go.Proofs Go.Proofs.YtocogcgnahbpkaaGreat
open Rs (Nd)
set_option maxRecDepth 10000
def NetP (A : Option Addr) (n c : Nat) (ms : List Rf.Msg) : HP := fun r => ∃ ys : List LM, ys.map (·.m) = ms ∧ Stars [Gr 10 59 A n c (ys.flatMap encL), EsD ys] r
theorem NetP.close {A : Option Addr} {n c : Nat} {ms : List Rf.Msg} {ys : List LM} {L : List HP} (h : ys.map (·.m) = ms) : Ent (Gr 10 59 A n c (ys.flatMap encL) :: EsD ys :: L) (NetP A n c ms :: L) :=
  (Ent.unstar (l := [_, _])).trans (.of fun _ hr => ⟨ys, h, hr⟩)
section
variable {P : Program} {n f : Nat} {e : Env} {L L' : List HP} {R : Fin} {k : List Item} {ds : List Deferred}
theorem W.net {A : Option Addr} {m c : Nat} {ms : List Rf.Msg} (H : ∀ ys : List LM, ys.map (·.m) = ms → W P f n R k e ds (Gr 10 59 A m c (ys.flatMap encL) :: EsD ys :: L)) : W P f n R k e ds (NetP A m c ms :: L) :=
  .ex fun ys => .pur fun hh => .ent (Ent.star (l := [_, _])) (H ys hh)
theorem W.msd {A : Option Addr} {ms : List Rf.Msg} (H : ∀ ys : List LM, ys.map (·.m) = ms → W P f n R k e ds (Rd false A (ys.flatMap encL) :: EsD ys :: L)) : W P f n R k e ds (MsD A ms :: L) :=
  .ex fun ys => .pur fun hh => .ent (Ent.star (l := [_, _])) (H ys hh)
end
theorem EsD.snoc {ys : List LM} {y : LM} {L : List HP} : Ent (EsD ys :: RLd y.A y.m.idx y.m.es :: L) (EsD (ys ++ [y]) :: L) := (Ent.unstar (l := [_, _])).trans (.of fun r ⟨r1, r2, a, b, _, d1, s1, s2, a', _, _, d', _⟩ => by
  intro z hz
  rcases List.mem_append.1 hz with hz | hz
  · exact (d1 z hz).le a
  · rw [List.mem_singleton.1 hz]; exact (d'.le a').le b)
structure DoneOk (e : EV) (r : Rdy) (d dB s' : Nd) : Prop where
  hard : ¬ (r.term < d.term ∨ (r.term = d.term ∧ d.vote ≠ 0 ∧ r.vote ≠ d.vote))
  wr : r.write = false → r.term = d.term ∧ r.vote = d.vote
  dsn : d.snap ≤ d.log.length ∧ d.log.length ≤ 1000000
  k4 : e.kind = 4 → d.snap < e.idx ∧ e.idx ≤ d.log.length ∧ dB = { d with snap := e.idx }
  k5 : e.kind = 5 → ∃ L0, L0.length = e.idx ∧ Rf.tmL L0 e.idx = e.term ∧ dB = { d with snap := e.idx, log := L0 }
  k0 : e.kind ≠ 4 → e.kind ≠ 5 → dB = d
  yes : r.write = true → dB.snap < r.from_ ∧ r.from_ ≤ dB.log.length + 1 ∧ r.ei = r.from_ - 1 ∧ s'.snap = dB.snap ∧ dB.log.take (r.from_ - 1) ++ r.es = s'.log ∧ s'.tm s'.snap = dB.tm dB.snap
  no : r.write = false → s'.snap = dB.snap ∧ s'.log = dB.log
  hd : r.term = s'.term ∧ r.vote = s'.vote
  bl : dB.log.length ≤ 1000000 ∧ e.idx ≤ 1000000 ∧ r.es.length ≤ 1000000
  dat : ∀ x ∈ d.log, x.data.length ≤ 140737488351232
  datB : ∀ x ∈ dB.log, x.data.length ≤ 140737488351232
  date : ∀ x ∈ r.es, x.data.length ≤ 140737488351232
  datm : ∀ m ∈ r.ms, ∀ x ∈ m.es, x.data.length ≤ 140737488351232
def trim (calm : Bool) (l : List Rf.Msg) : List Rf.Msg := if calm = true then l else l.drop (l.length - 200)
theorem oneLE (l : List LE) : (l.flatMap encLE).all isOne = true := by simp [List.all_flatMap, encLE, isOne]
theorem trim_one {calm : Bool} {l : List Rf.Msg} (hc : calm = false) (hl : 200 < l.length) : trim calm (l.drop 1) = trim calm l := by
  unfold trim; rw [hc, if_neg (by decide), if_neg (by decide), List.drop_drop, List.length_drop]; congr 1; omega
theorem trim_all {calm : Bool} {l : List Rf.Msg} (h : ¬ (200 < l.length ∧ calm = false)) : trim calm l = l := by
  unfold trim
  cases calm
  · rw [if_neg (by decide), show l.length - 200 = 0 by have : ¬ 200 < l.length := fun h2 => h ⟨h2, rfl⟩
                                                       omega]; rfl
  · rfl
attribute [local irreducible] W RS RG RT RD Fn FnQ OpS QOp Own Sat Rd Gr Mp Rg Lg Ms Es Nod Rp NodI RLg RMs REs RN RLd RNF EsD MsD NBk BkP BkRd BothI MapsP KnD NetP
section
variable {c : Rf.Cfg} {bw bs : Nat} {a : WC} {x : SC} {d dB s' : Nd} {G : MG} {e : EV} {r : Rdy} {EA MA SA : Option Addr} {ec mc sc : Nat} {net : List Rf.Msg}
theorem done_t (H : DoneOk e r d dB s') (hr : r.Ok) (T : TelOk G x s' r a.hi) (hlc : d.log.length - d.snap ≤ x.lc) (hnn : a.nn = net.length) (hnl : net.length ≤ 100000) :
    Fn Tryz.prog 34 [pt bw, pt bs, .agg (encV e).toArray, .agg (rdV r EA ec MA mc SA sc).toArray].toArray
    [Blk true bw (wcells c a) 43, Blk true bs (scells x d) 52, RLd x.lA d.snap (d.log.drop d.snap), MapsP G a.mL a.mV a.mK a.mT, NetP a.NA a.nn a.nc net, RLd EA r.ei r.es, MsD MA r.ms]
    (fun v L => ∃ hi NA nc lA lc, a.hi ≤ hi ∧ hi ≤ max a.hi r.commit ∧ s'.log.length - s'.snap ≤ lc ∧ v = .bool true ∧
      L = [Blk true bw (wcells c { a with hi := hi, NA := NA, nn := (trim a.calm (net ++ r.ms)).length, nc := nc }) 43, Blk true bs (scells { x with lA := lA, lc := lc, cm := r.commit, mo := max x.mo r.commit, ro := r.role, le := r.leader } s') 52, RLd lA s'.snap (s'.log.drop s'.snap), MapsP G a.mL a.mV a.mK a.mT, NetP NA (trim a.calm (net ++ r.ms)).length nc (trim a.calm (net ++ r.ms))]) := by
  have hdsn := H.dsn
  have hwr := H.wr
  have hhd := H.hard
  refine Fn.enter Tryz.func34 rfl (by kernel_rfl) rfl ?_
  refine .seq ?_
  refine .region ?_
  refine runR ?_
  refine .box fun z6 => ?_
  refine .box fun z7 => ?_
  refine runR ?_
  refine .seq ?_
  refine .region ?_
  refine runR ?_
  refine .quiet rfl rfl rfl (Q.loadP rfl rfl rfl rfl pick rfl) ?_
  refine .new fun z9 => ?_
  refine runR ?_
  refine .seq ?_
  refine W.joinI (ι := Unit) (fun _ => True) (fun _ => [(0, pt bw), (1, pt bs), (6, pt z6), (7, pt z7)]) (fun _ => [Blk true z6 (encV e) 61, Blk true z7 (rdV r EA ec MA mc SA sc) 80, Blk true bw (wcells c a) 43, Blk true bs (scells x d) 52, RLd x.lA d.snap (d.log.drop d.snap), MapsP G a.mL a.mV a.mK a.mT, NetP a.NA a.nn a.nc net, RLd EA r.ei r.es, MsD MA r.ms]) ?_ fun tail => ?_
  case' refine_2 =>
    refine .seq ?_
    refine .region ?_
    have hcs : (d.term < r.term ∧ r.write = true) ∨ (r.term = d.term ∧ d.vote = 0 ∧ r.vote = 0) ∨ (r.term = d.term ∧ d.vote = 0 ∧ r.vote ≠ 0 ∧ r.write = true) ∨ (r.term = d.term ∧ d.vote ≠ 0 ∧ r.vote = d.vote) := by
      cases hw : r.write with
      | true => simp only [and_true]; omega
      | false => have := hwr hw; omega
    rcases hcs with ⟨h1, h2⟩ | ⟨h1, h2, h3⟩ | ⟨h1, h2, h3, h4⟩ | ⟨h1, h2, h3⟩
    all_goals
      refine runR ?_
      refine .quiet rfl rfl rfl (Q.loadP rfl rfl rfl rfl pick rfl) ?_
      refine runR ?_
      refine .quiet rfl rfl rfl (Q.neqH rfl rfl rfl) ?_
      first
      | refine RS.hit 51 rfl (by rw [decide_eq_true (by omega)] : _ = Value.bool true) ?_
      | refine RS.hit 51 rfl (by rw [decide_eq_false (by omega)] : _ = Value.bool false) ?_
      refine runR ?_
      try refine W.hit 57 rfl (by rw [show r.write = true by assumption]; rfl : _ = Value.bool false) ?_
      refine .condF rfl ?_
      refine .skip ?_
      exact .back (tail () trivial)
  rintro ⟨⟩ _
  refine .seq ?_
  obtain ⟨dA, hdA⟩ : ∃ dA : Nd, dA = if e.kind = 4 then { d with snap := e.idx } else d := ⟨_, rfl⟩
  refine W.joinI (ι := Option Addr × Nat) (fun i => dA.log.length - dA.snap ≤ i.2) (fun _ => [(0, pt bw), (1, pt bs), (6, pt z6), (7, pt z7)]) (fun i => [Blk true z6 (encV e) 61, Blk true z7 (rdV r EA ec MA mc SA sc) 80, Blk true bw (wcells c a) 43, Blk true bs (scells { x with lA := i.1, lc := i.2 } dA) 52, RLd i.1 dA.snap (dA.log.drop dA.snap), MapsP G a.mL a.mV a.mK a.mT, NetP a.NA a.nn a.nc net, RLd EA r.ei r.es, MsD MA r.ms]) ?_ fun tail => ?_
  case' refine_2 =>
    by_cases hk : e.kind = 4
    · rw [if_pos hk] at hdA
      subst hdA
      obtain ⟨k1, k2, k3⟩ := H.k4 hk
      refine .first (RLd x.lA d.snap (d.log.drop d.snap)) ?_
      refine .rld fun les hles => ?_
      have hlen := les_len hles
      rw [List.length_drop] at hlen
      have hR : Reads (Rd false x.lA (les.flatMap encLE)) x.lA (les.flatMap encLE) := .rd
      obtain ⟨y, hy⟩ : ∃ y, les[e.idx - d.snap - 1]? = some y := ⟨_, List.getElem?_eq_getElem (by omega)⟩
      obtain ⟨en, he1, he2⟩ := les_at hles hy
      rw [List.getElem?_drop, show d.snap + (e.idx - d.snap - 1) = e.idx - 1 by omega] at he1
      refine W.fact (fun w h => IsA.of (k := (e.idx - d.snap - 1) * 3) hR (by exact pick) (by rw [flat_len lenLE]; omega) h) fun hA => ?_
      refine run ?_
      refine W.plan [] mixed (by rfl) (by kernel_rfl) ?_
      refine run ?_
      refine .hit 76 rfl (by congr 1; omega : _ = nv (e.idx - d.snap - 1)) ?_
      refine run ?_
      have ht : y.e.term = ((d.tm e.idx : Nat) : Int) := by rw [he2, ← tm_succ (s := d) (i := e.idx - 1) he1, show e.idx - 1 + 1 = e.idx by omega]
      rw [ht]
      refine .hit 95 rfl (by congr 1; omega : _ = nv (e.idx - d.snap)) ?_
      refine .quiet rfl rfl rfl (Q.sliceFrom (lo := e.idx - d.snap) rfl rfl rfl rfl rfl rfl (by omega)) ?_
      generalize hkk : e.idx - d.snap = kk
      have hdl : (les.drop kk).length = d.log.length - d.snap - kk := by rw [List.length_drop]; omega
      rw [← hdl]
      have hes : (les.drop kk).map (·.e) = ents e.idx (d.log.drop e.idx) := by rw [List.map_drop, hles, ents_drop, List.drop_drop, show d.snap + kk = e.idx by omega]
      have hdd : ∀ z ∈ les, z.e.data.length ≤ 140737488351232 := fun z hz => by
        obtain ⟨j, hj⟩ := List.mem_iff_getElem?.1 hz
        obtain ⟨en, h1, h2⟩ := les_at hles hj
        rw [h2]; exact H.dat en (List.mem_of_mem_drop (List.mem_of_getElem? h1))
      refine .callN (copyLog_n (A := if x.lc = kk then x.lA else adr x.lA (kk * 3)) (l := les.drop kk) (by omega) fun z hz => hdd z (List.mem_of_mem_drop hz)) (.trans (Picks.sub (a := [Rd false x.lA (les.flatMap encLE), Ds les]) picks) ((Ent.of fun r hr => dropRd kk x.lc hr (by omega)).trans (.cons _ (.of fun r hr => hr.drop kk)))) ?_
      rintro v M ⟨l', A2, c2, rfl, h2, rfl⟩
      rw [hes] at h2
      have hl2 := les_len h2
      refine runR ?_
      refine W.fact (fun w h => Gr.cap (h.ent (Picks.ent (a := [Gr 3 67 A2 l'.length c2 (l'.flatMap encLE)]) picks))) fun hcap => ?_
      rw [List.length_drop] at hl2
      refine .ent ((Picks.ent (a := [Gr 3 67 A2 l'.length c2 (l'.flatMap encLE), Gs l']) picks).trans ((Lg.close h2).trans (.of fun r hr => Lg.lend hr))) ?_
      rw [hl2]
      exact .back (tail (A2, c2) (by dsimp only; omega))
    · rw [if_neg hk] at hdA
      subst hdA
      refine .seq ?_
      refine .region ?_
      refine runR ?_
      refine .condF rfl ?_
      refine .skip ?_
      exact .back (tail (x.lA, x.lc) hlc)
  rintro ⟨lA1, lc1⟩ hlc1
  dsimp only at hlc1 ⊢
  refine .seq ?_
  have hdB : dB.term = d.term ∧ dB.vote = d.vote ∧ dB.snap ≤ dB.log.length := by
    by_cases hk : e.kind = 4
    · obtain ⟨k1, k2, k3⟩ := H.k4 hk; rw [k3]; exact ⟨rfl, rfl, k2⟩
    by_cases hk5 : e.kind = 5
    · obtain ⟨L0, k1, k2, k3⟩ := H.k5 hk5; rw [k3]; exact ⟨rfl, rfl, by show e.idx ≤ L0.length; omega⟩
    · rw [H.k0 hk hk5]; exact ⟨rfl, rfl, hdsn.1⟩
  refine W.joinI (ι := Option Addr × Nat) (fun i => dB.log.length - dB.snap ≤ i.2) (fun _ => [(0, pt bw), (1, pt bs), (6, pt z6), (7, pt z7)]) (fun i => [Blk true z6 (encV e) 61, Blk true z7 (rdV r EA ec MA mc SA sc) 80, Blk true bw (wcells c a) 43, Blk true bs (scells { x with lA := i.1, lc := i.2 } dB) 52, RLd i.1 dB.snap (dB.log.drop dB.snap), MapsP G a.mL a.mV a.mK a.mT, NetP a.NA a.nn a.nc net, RLd EA r.ei r.es, MsD MA r.ms]) ?_ fun tail => ?_
  case' refine_2 =>
    by_cases hk : e.kind = 5
    · rw [if_neg (by omega)] at hdA
      obtain ⟨L0, k1, k2, k3⟩ := H.k5 hk
      rw [hdA]
      refine .seq ?_
      refine .region ?_
      refine runR ?_
      refine .condT rfl ?_
      refine .seq ?_
      refine .region ?_
      refine runR ?_
      refine .seq ?_
      refine .region ?_
      refine runR ?_
      refine .region ?_
      refine runR ?_
      have e1 : dB.snap = e.idx := by rw [k3]
      have e2 : dB.log.drop dB.snap = [] := by rw [k3, ← k1]; exact List.drop_length
      have e3 : dB.log.length - dB.snap = 0 := by rw [k3, k1]; exact Nat.sub_self _
      have e4 : dB.tm dB.snap = e.term := by rw [k3]; exact k2
      refine .ent (Ent.mk (X := Gs []) fun r => trivial) ?_
      refine .ent (Ent.mk (X := Gr 3 67 none 0 0 []) fun r => .nil) ?_
      refine .ent (Lg.close (les := []) (i := e.idx) (l := []) rfl) ?_
      refine .ent (.of fun r hr => Lg.lend hr) ?_
      have hb : scells { x with lA := none, lc := 0 } dB = [nv x.id, ptIf (!x.bo) x.a, ptIf x.bo x.a, nv d.term, nv d.vote, nv e.idx, nv e.term, .slice none 0 0, nv x.cm, nv x.mo, nv x.ro, nv x.le] := by
        unfold scells
        rw [e4, e3, e1, hdB.1, hdB.2.1]
      have h2 := tail (none, 0) (by dsimp only; omega)
      dsimp only at h2
      rw [hb, e2, e1] at h2
      exact .back h2
    · refine .seq ?_
      refine .region ?_
      refine runR ?_
      have e1 : dB = dA := by
        by_cases h4 : e.kind = 4
        · rw [hdA, if_pos h4, (H.k4 h4).2.2]
        · rw [hdA, if_neg h4, H.k0 h4 hk]
      rw [← e1] at hlc1
      rw [← e1]
      refine .condF rfl ?_
      refine .skip ?_
      exact .back (tail (lA1, lc1) hlc1)
  rintro ⟨lA2, lc2⟩ hlc2
  dsimp only at hlc2 ⊢
  refine .seq ?_
  refine W.joinI (ι := Option Addr × Nat) (fun i => s'.log.length - s'.snap ≤ i.2) (fun _ => [(0, pt bw), (1, pt bs), (6, pt z6), (7, pt z7)]) (fun i => [Blk true z6 (encV e) 61, Blk true z7 (rdV r EA ec MA mc SA sc) 80, Blk true bw (wcells c a) 43, Blk true bs (scells { x with lA := i.1, lc := i.2 } s') 52, RLd i.1 s'.snap (s'.log.drop s'.snap), MapsP G a.mL a.mV a.mK a.mT, NetP a.NA a.nn a.nc net, RLd EA r.ei r.es, MsD MA r.ms]) ?_ fun tail => ?_
  case' refine_2 =>
    have hblB := H.bl
    cases hw : r.write with
    | true =>
      obtain ⟨y1, y2, y3, y4, y5, y6⟩ := H.yes hw
      refine .first (RLd lA2 dB.snap (dB.log.drop dB.snap)) ?_
      refine .rld fun les hles => ?_
      refine .first (RLd EA r.ei r.es) ?_
      refine .rld fun ees hees => ?_
      have hlen := les_len hles
      rw [List.length_drop] at hlen
      have helen := les_len hees
      refine .seq ?_
      refine .region ?_
      refine runR ?_
      refine .condT (by rw [← hw]; rfl) ?_
      refine .seq ?_
      refine .region ?_
      refine runR ?_
      refine .quiet rfl rfl rfl (Q.loadP rfl rfl rfl rfl pick rfl) ?_
      refine run ?_
      dsimp only
      refine W.plan [] mixed (by rfl) (by kernel_rfl) ?_
      refine run ?_
      refine W.plan [1008, 1011] mixed (by rfl) (by kernel_rfl) ?_
      refine run ?_
      refine RG.hit 155 rfl (by congr 1; omega : _ = nv (r.from_ - dB.snap - 1)) ?_
      refine RG.takeP rfl rfl rfl rfl (Q.sliceTo (hi := r.from_ - dB.snap - 1) rfl rfl rfl rfl rfl rfl (by omega)) ?_
      generalize hj : r.from_ - dB.snap - 1 = j
      have hlj : (les.take j).length = j := by rw [List.length_take]; omega
      refine run ?_
      have hes1 : (les.take j).map (·.e) = ents dB.snap ((dB.log.take (r.from_ - 1)).drop dB.snap) := by
        rw [List.map_take, hles, ents_take, List.drop_take, show r.from_ - 1 - dB.snap = j by omega]
      have hd1 : ∀ z ∈ les, z.e.data.length ≤ 140737488351232 := fun z hz => by
        obtain ⟨j, hj⟩ := List.mem_iff_getElem?.1 hz
        obtain ⟨en, h1, h2⟩ := les_at hles hj
        rw [h2]; exact H.datB en (List.mem_of_mem_drop (List.mem_of_getElem? h1))
      have hd2 : ∀ z ∈ ees, z.e.data.length ≤ 140737488351232 := fun z hz => by
        obtain ⟨j, hj⟩ := List.mem_iff_getElem?.1 hz
        obtain ⟨en, h1, h2⟩ := les_at hees hj
        rw [h2]; exact H.date en (List.mem_of_getElem? h1)
      have hC1 := copyLog_n (A := lA2) (cp := lc2) (l := les.take j) (by omega) fun z hz => hd1 z (List.mem_of_mem_take hz)
      have hC2 := copyLog_n (A := EA) (cp := ec) (l := ees) (by omega) hd2
      rw [hlj] at hC1
      rw [helen] at hC2
      have hfr : les.flatMap encLE = (les.take j).flatMap encLE ++ (les.drop j).flatMap encLE := by rw [← List.flatMap_append, List.take_append_drop]
      refine .callN hC1 (.trans (Picks.sub (a := [Rd false lA2 (les.flatMap encLE), Ds les]) picks) ((Ent.of fun r hr => by rw [hfr] at hr; exact hr.front).trans (.cons _ (.of fun r hr => Ds.sub hr fun z hz => List.mem_of_mem_take hz)))) ?_
      rintro v M ⟨l1, A1, c1, rfl, h1, rfl⟩
      refine run ?_
      refine .callN hC2 (Picks.sub (a := [Rd false EA (ees.flatMap encLE), Ds ees]) picks) ?_
      rintro v M ⟨l2, A2, c2, rfl, h2, rfl⟩
      refine run ?_
      have hl1 : l1.length = j := by have := congrArg List.length h1; rw [List.length_map, List.length_map, hlj] at this; exact this
      have hl2 : l2.length = r.es.length := by have := congrArg List.length h2; simpa [helen] using this
      refine .push (sz := 3) (nn := l1.length) (m := l2.length) (Src.pick rfl rfl .hd Reads.gr (flat_len lenLE l2) rfl (oneLE l2)) fun A3 c3 => ?_
      refine runR ?_
      rw [← List.flatMap_append]
      have hm : (l1 ++ l2).map (·.e) = ents s'.snap (s'.log.drop s'.snap) := by
        rw [List.map_append, h1, h2, hes1, hees, y3, y4, ← y5, List.drop_append_of_le_length (by rw [List.length_take]; omega), ents_app]
        congr 1
        rw [List.length_drop, List.length_take]
        congr 1; omega
      have hl12 := les_len hm
      rw [List.length_append, List.length_drop] at hl12
      refine W.fact (fun w h => Gr.cap (h.ent (Picks.ent (a := [Gr 3 67 A3 (l1.length + l2.length) c3 ((l1 ++ l2).flatMap encLE)]) picks))) fun hcap => ?_
      refine .ent ((Picks.ent (a := [Gs l1, Gs l2]) picks).trans Gs.app) ?_
      rw [← List.length_append]
      refine .ent ((Picks.ent (a := [Gr 3 67 A3 (l1 ++ l2).length c3 ((l1 ++ l2).flatMap encLE), Gs (l1 ++ l2)]) picks).trans ((Lg.close hm).trans (.of fun r hr => Lg.lend hr))) ?_
      refine .ent ((Picks.ent (a := [Rd false EA (ees.flatMap encLE), Ds ees]) picks).trans (RLd.close hees)) ?_
      have e1 := H.hd
      have hb : [nv x.id, ptIf (!x.bo) x.a, ptIf x.bo x.a, nv r.term, nv r.vote, nv dB.snap, nv (dB.tm dB.snap), .slice A3 (l1 ++ l2).length c3, nv x.cm, nv x.mo, nv x.ro, nv x.le] = scells { x with lA := A3, lc := c3 } s' := by
        unfold scells
        rw [← e1.1, ← e1.2, y6, ← hl12, ← List.length_append, y4]
      refine .ent ((Picks.ent (a := [Blk true bs [nv x.id, ptIf (!x.bo) x.a, ptIf x.bo x.a, nv r.term, nv r.vote, nv dB.snap, nv (dB.tm dB.snap), .slice A3 (l1 ++ l2).length c3, nv x.cm, nv x.mo, nv x.ro, nv x.le] 52]) picks).trans (.of (Y := Blk true bs (scells { x with lA := A3, lc := c3 } s') 52) fun r hr => by rw [← hb]; exact hr)) ?_
      exact .back (tail (A3, c3) (by dsimp only; omega))
    | false =>
      obtain ⟨n1, n2⟩ := H.no hw
      have hb : scells { x with lA := lA2, lc := lc2 } s' = scells { x with lA := lA2, lc := lc2 } dB := by
        have e1 := H.hd
        have e2 := hwr hw
        unfold scells
        rw [← e1.1, ← e1.2, e2.1, e2.2, hdB.1, hdB.2.1, n1, n2]
        unfold Rs.Nd.tm
        rw [n2]
      refine .seq ?_
      refine .region ?_
      refine runR ?_
      refine .condF (by rw [← hw]; rfl) ?_
      refine .skip ?_
      refine .ent ((Picks.ent (a := [Blk true bs (scells { x with lA := lA2, lc := lc2 } dB) 52]) picks).trans (.of (Y := Blk true bs (scells { x with lA := lA2, lc := lc2 } s') 52) fun r hr => by rw [hb]; exact hr)) ?_
      refine .ent ((Picks.ent (a := [RLd lA2 dB.snap (dB.log.drop dB.snap)]) picks).trans (.of (Y := RLd lA2 s'.snap (s'.log.drop s'.snap)) fun r hr => by rw [n1, n2]; exact hr)) ?_
      exact .back (tail (lA2, lc2) (by dsimp only; rw [n1, n2]; exact hlc2))
  rintro ⟨lA3, lc3⟩ hlc3
  dsimp only at hlc3 ⊢
  refine .first (MsD MA r.ms) ?_
  refine .msd fun ys hys => ?_
  have hyl : ys.length = r.ms.length := by rw [← hys, List.length_map]
  have hRy : Reads (Rd false MA (ys.flatMap encL)) MA (ys.flatMap encL) := .rd
  have hms := hr.ms
  refine run ?_
  refine W.loopH (ι := Nat × Option Addr × Nat) (fun i => i.1 ≤ r.ms.length) (fun i => [(0, pt bw), (1, pt bs), (6, pt z6), (7, pt z7), (12, nv i.1)])
    (fun i => [Blk true z7 (rdV r EA ec MA mc SA sc) 80, Blk true bw (wcells c { a with NA := i.2.1, nn := (net ++ r.ms.take i.1).length, nc := i.2.2 }) 43, Blk true bs (scells { x with lA := lA3, lc := lc3 } s') 52, RLd lA3 s'.snap (s'.log.drop s'.snap), MapsP G a.mL a.mV a.mK a.mT, NetP i.2.1 (net ++ r.ms.take i.1).length i.2.2 (net ++ r.ms.take i.1), Rd false MA (ys.flatMap encL), EsD ys]) (fun i => r.ms.length - i.1) (0, a.NA, a.nc) (Nat.zero_le _) subs (by rw [List.take_zero, List.append_nil, ← hnn]; exact Picks.sub picks) ?_
  rintro ⟨k, NA, nc⟩ hk ih
  dsimp only at hk ih ⊢
  by_cases hlt : k < r.ms.length
  · obtain ⟨y, hy⟩ : ∃ y, ys[k]? = some y := ⟨_, List.getElem?_eq_getElem (by omega)⟩
    have hym : y.m ∈ r.ms := by rw [← hys]; exact List.mem_map_of_mem (List.mem_of_getElem? hy)
    refine W.fact (fun w h => IsA.of (k := k * 10) hRy (by exact pick) (by rw [flat_len lenLM]; omega) h) fun hA => ?_
    refine .ent ((Picks.ent (a := [EsD ys]) picks).trans ((Ent.dup EsD.pers).trans (Ent.of (Y := RLd y.A y.m.idx y.m.es) fun r h => EsD.at (List.mem_of_getElem? hy) h))) ?_
    refine .rld fun ees hees => ?_
    have helen := les_len hees
    have hme := hr.me y.m hym
    have hde : ∀ z ∈ ees, z.e.data.length ≤ 140737488351232 := fun z hz => by
      obtain ⟨j, hj⟩ := List.mem_iff_getElem?.1 hz
      obtain ⟨en, h1, h2⟩ := les_at hees hj
      rw [h2]; exact H.datm y.m hym en (List.mem_of_getElem? h1)
    have hC := copyLog_n (A := y.A) (cp := y.c) (l := ees) (by omega) hde
    rw [helen] at hC
    refine .first (NetP NA (net ++ r.ms.take k).length nc (net ++ r.ms.take k)) ?_
    refine .net fun zs hzs => ?_
    have hzl : zs.length = (net ++ r.ms.take k).length := by rw [← hzs, List.length_map]
    refine run ?_
    refine .new fun z13 => ?_
    refine run ?_
    refine .callN hC (Picks.sub (a := [Rd false y.A (ees.flatMap encLE), Ds ees]) picks) ?_
    rintro v M ⟨l', A2, c2, rfl, h2, rfl⟩
    rw [hees] at h2
    have hl2 := les_len h2
    rw [hl2]
    refine run ?_
    refine .ent ((Picks.ent (a := [Gr 3 67 A2 y.m.es.length c2 (l'.flatMap encLE), Gs l']) picks).trans ((Ent.of fun r hr => by rw [← hl2] at hr; exact hr).trans ((Lg.close h2).trans (.of fun r hr => Lg.lend hr)))) ?_
    refine .ent (Picks.ent (a := [Blk true z13 (encL ⟨y.m, A2, c2⟩) 59]) picks) ?_
    refine W.plan [] mixed (by rfl) (by kernel_rfl) ?_
    refine run ?_
    have hnb : (net ++ r.ms.take k).length ≤ 101000 := by rw [List.length_append, List.length_take]; omega
    have hsu : net ++ r.ms.take (k + 1) = (net ++ r.ms.take k) ++ [y.m] := by
      rw [List.take_add_one, ← hys, List.getElem?_map, hy, List.append_assoc]; rfl
    have ih2 := fun A3 c3 => ih (k + 1, A3, c3) (by dsimp only; omega) (by dsimp only; omega)
    dsimp only at ih2
    rw [hsu] at ih2
    generalize hnk : net ++ r.ms.take k = nk at *
    rw [show (nk ++ [y.m]).length = nk.length + 1 from List.length_append] at ih2
    dsimp only
    refine .lit fun z14 => ?_
    refine run ?_
    refine .push (sz := 10) (nn := nk.length) (m := 1) (Src.pick (cs := encL ⟨y.m, A2, c2⟩) rfl rfl .hd .own rfl rfl rfl) fun A3 c3 => ?_
    refine run ?_
    have hfl : zs.flatMap encL ++ encL ⟨y.m, A2, c2⟩ = (zs ++ [(⟨y.m, A2, c2⟩ : LM)]).flatMap encL := by rw [List.flatMap_append, List.flatMap_singleton]
    rw [hfl]
    refine .ent ((Picks.ent (a := [EsD zs, RLd A2 y.m.idx y.m.es]) picks).trans (EsD.snoc (y := ⟨y.m, A2, c2⟩))) ?_
    refine .ent ((Picks.ent (a := [Gr 10 59 A3 (nk.length + 1) c3 ((zs ++ [(⟨y.m, A2, c2⟩ : LM)]).flatMap encL), EsD (zs ++ [⟨y.m, A2, c2⟩])]) picks).trans (NetP.close (ms := nk ++ [y.m]) (by rw [List.map_append, hzs]; rfl))) ?_
    exact .back (ih2 A3 c3)
  have hkk : k = r.ms.length := by omega
  subst hkk
  rw [List.take_length]
  refine run ?_
  refine W.loopH (ι := List Rf.Msg × Option Addr × Nat) (fun i => trim a.calm i.1 = trim a.calm (net ++ r.ms)) (fun i => [(0, pt bw), (1, pt bs), (7, pt z7)])
    (fun i => [Blk true z7 (rdV r EA ec MA mc SA sc) 80, Blk true bw (wcells c { a with NA := i.2.1, nn := i.1.length, nc := i.2.2 }) 43, Blk true bs (scells { x with lA := lA3, lc := lc3 } s') 52, RLd lA3 s'.snap (s'.log.drop s'.snap), MapsP G a.mL a.mV a.mK a.mT, NetP i.2.1 i.1.length i.2.2 i.1]) (fun i => i.1.length) (net ++ r.ms, NA, nc) rfl subs (by exact Picks.sub picks) ?_
  rintro ⟨l, NB, nd⟩ hl ih2
  dsimp only at hl ih2 ⊢
  by_cases hgo : 200 < l.length ∧ a.calm = false
  · obtain ⟨hg1, hg2⟩ := hgo
    refine .first (NetP NB l.length nd l) ?_
    refine .net fun zs hzs => ?_
    refine run ?_
    refine RS.hit 197 rfl (by rw [decide_eq_true (by show (200 : Int) < (l.length : Int); omega)] : _ = .bool true) ?_
    refine run ?_
    refine W.hit 203 rfl (by rw [show ({ a with NA := NB, nn := l.length, nc := nd } : WC).calm = false from hg2]; rfl : _ = .bool true) ?_
    dsimp only
    refine run ?_
    dsimp only
    refine .quiet rfl rfl rfl (Q.sliceFrom (lo := 1) rfl rfl rfl rfl rfl rfl (by omega)) ?_
    refine run ?_
    dsimp only
    refine .ent ((Picks.ent (a := [EsD zs]) picks).trans (.of (Y := EsD (zs.drop 1)) fun r h => by unfold EsD at *; exact fun y hy => h y (List.mem_of_mem_drop hy))) ?_
    refine .ent ((Picks.ent (a := [Gr 10 59 NB l.length nd (zs.flatMap encL)]) picks).trans (.of (Y := Gr 10 59 (if nd = 1 then NB else adr NB (1 * 10)) (l.length - 1) (nd - 1) ((zs.drop 1).flatMap encL)) fun r h => by rw [← flat_drop lenLM]; exact h.dropTo (by omega))) ?_
    refine .ent ((Picks.ent (a := [Gr 10 59 (if nd = 1 then NB else adr NB (1 * 10)) (l.length - 1) (nd - 1) ((zs.drop 1).flatMap encL), EsD (zs.drop 1)]) picks).trans (NetP.close (ms := l.drop 1) (by rw [List.map_drop, hzs]))) ?_
    have h3 := ih2 (l.drop 1, if nd = 1 then NB else adr NB (1 * 10), nd - 1) (by dsimp only; rw [trim_one hg2 hg1]; exact hl) (by dsimp only; rw [List.length_drop]; omega)
    dsimp only at h3
    rw [List.length_drop] at h3
    exact .back h3
  have hT : TelOk G { x with lA := lA3, lc := lc3 } s' r a.hi := ⟨T.vote, T.led, T.comp, T.up, T.fit, T.same, T.new, T.sn, T.len, T.hi, T.id, T.term⟩
  have hall := trim_all hgo
  rw [hl] at hall
  rw [hall]
  obtain ⟨a2, ha2⟩ : ∃ a2 : WC, a2 = { a with NA := NB, nn := l.length, nc := nd } := ⟨_, rfl⟩
  have ha3 : a2.nn = l.length := by rw [ha2]
  have ha4 : a2.calm = a.calm := by rw [ha2]
  have ha5 : a2.hi = a.hi := by rw [ha2]
  have ha6 : a2.mL = a.mL ∧ a2.mV = a.mV ∧ a2.mK = a.mK ∧ a2.mT = a.mT := by rw [ha2]; exact ⟨rfl, rfl, rfl, rfl⟩
  rw [← ha2]
  have hte := told_t (c := c) (bw := bw) (bs := bs) (a := a2) (x := { x with lA := lA3, lc := lc3 }) (d := s') (G := G) (r := r) (EA := EA) (MA := MA) (SA := SA) (ec := ec) (mc := mc) (sc := sc) (by rw [ha5]; exact hT)
  rw [ha6.1, ha6.2.1, ha6.2.2.1, ha6.2.2.2] at hte
  have hgc : l.length ≤ 200 ∨ (200 < l.length ∧ a2.calm = true) := by
    rcases Nat.lt_or_ge 200 l.length with h | h
    · right; refine ⟨h, ?_⟩
      rw [ha4]; cases hc : a.calm
      · exact absurd ⟨h, hc⟩ hgo
      · rfl
    · exact .inl h
  rcases hgc with h1 | ⟨h1, h2⟩
  all_goals
    refine run ?_
    try
      refine W.hit 203 rfl (by rw [h2]; rfl : _ = .bool false) ?_
      refine run ?_
    refine .callE hte ?_
    rintro v L ⟨hi, b1, b2, rfl, rfl⟩
    rw [ha5] at b1 b2
    refine run ?_
    subst ha2
    exact .retE Tryz.func34 ⟨hi, NB, nd, lA3, lc3, b1, b2, hlc3, rfl, rfl⟩
end
end Go.SL
