/-
  A part of the proof of what E53 says at its head.
-/
import Derived.Test.YtocogcgnahbpkaaGreatE40
namespace Go.SL
open Go.Proofs Go.Proofs.YtocogcgnahbpkaaGreat
open Rs (Nd)
set_option maxRecDepth 10000
attribute [local irreducible] W RS RG RT RD Fn FnQ OpS QOp Own Sat Rd Gr Mp Rg Lg Ms Es Nod Rp NodI RLg RMs REs RN RLd RNF EsD MsD NBk BkP BkRd BothI MapsP KnD NetP
section
variable {c : Cfg} {s s' : Nd} {e : EV} {frm p bs cp : Nat} {fl : Nat × Nat} {m : Rf.Msg} {A : Option Addr} {ms : List Rf.Msg} {x : RX} {d : Int} {data : List (List Int)} {M X D : HP}
set_option maxHeartbeats 2000000 in
theorem rmay_f {X : HP} {mes : List LE} (hs : Sn c s) (hf : Fmd c s m) (hr : Wrg c s m) (hX : Reads X A (mes.flatMap encLE)) (hmes : mes.map (·.e) = ents m.idx m.es) : FnQ Tryz.prog 89 [pt p, .agg (encM m A cp).toArray].toArray [RN p c s x ms, X] (.bool false) := by
  refine .rn (.of Tryz.func89 rfl (by kernel_rfl)) fun h hh => ?_
  refine FnQ.pre ?_ (Picks.ent (a := [RLgN h s]) picks)
  refine FnQ.rlg (fun les hles => ?_) (.of Tryz.func89 rfl (by kernel_rfl))
  refine FnQ.pre (Fn.quietD (M := [Rb false p c h s x, Rd false h.oA ((oth c s).flatMap (peerE s)), Rd false h.lA (les.flatMap encLE), Rd false A (mes.flatMap encLE)]) ?_ pers5) ((Picks.sub (a := [Rb true p c h s x, OthG c h s, Gr 3 67 h.lA h.ln h.lc (les.flatMap encLE), X]) picks).trans (lend1.frame.trans (.cons _ ((Ent.of Reads.gr).trans (.cons _ ((Ent.of Reads.gr).trans (.cons _ (.of hX))))))))
  have hsf := hs.fin
  have hn := hs.n
  obtain ⟨i, hyi⟩ := oth_index hf.src
  have hil := (List.getElem?_eq_some_iff.1 hyi).1
  have hO := rother_x (X := Rd false h.oA ((oth c s).flatMap (peerE s))) (x := x) (p := p) (q := false) (c := c) (h := h) (s := s) hn.2 .rd hyi
  have hT := rterm_r (x := x) (p := p) (hh.rm hs) hles (i := s.commit) (by omega)
  have hE : FnQ Tryz.prog 70 [pt p].toArray [Rb false p c h s x] (nv s.log.length) := rend_q (hh.rm hs)
  have hR : Reads (Rd false A (mes.flatMap encLE)) A (mes.flatMap encLE) := .rd
  have hml := les_len hmes
  obtain ⟨⟨k1, k2⟩, hsrc, hdst, ⟨t1, t2⟩, ⟨n1, n2, n3, n4⟩, hlog, hes, hsnap, hrep, hlen, hgoes⟩ := hf
  refine Fn.enter Tryz.func89 rfl (by kernel_rfl) rfl ?_
  refine run ?_
  refine .box fun z => ?_
  refine run ?_
  refine W.plan [2, 7, 23, 28, 33, 38, 45] mixed (by rfl) (by kernel_rfl) ?_
  refine run ?_
  refine .callQ (out_f (a := m.kind) (lo := 1) (hi := 8) (by omega) (by omega)) ?_
  refine run ?_
  refine .callQ hO ?_
  refine run ?_
  refine .callQ (out_f (a := m.term) (lo := 1) (hi := 1099511627776) (by omega) (by omega)) ?_
  refine run ?_
  refine .callQ (out_f (a := m.idx) (lo := 0) (hi := 1099511627776) (by omega) (by omega)) ?_
  refine run ?_
  refine .callQ (out_f (a := m.commit) (lo := 0) (hi := 1099511627776) (by omega) (by omega)) ?_
  refine run ?_
  refine .callQ (out_f (a := m.hint) (lo := 0) (hi := 1099511627776) (by omega) (by omega)) ?_
  refine run ?_
  refine .callQ (out_f (a := m.lt) (lo := 0) (hi := m.term) (by omega) (by omega)) ?_
  have hgo : ∀ k (e : Rf.Ent), m.es[k]? = some e → max (if k = 0 then m.lt else ((m.es[k - 1]?).map (·.term)).getD 0) 1 ≤ e.term ∧ e.term ≤ m.term := fun k e h => goes_at hgoes h
  clear hsrc hdst hgoes hO hsnap hrep
  have hes0 : m.kind ≠ 5 → m.es.length = 0 := fun h => by rw [hes h]; rfl
  clear hes
  by_cases hz : m.lt = 0
  all_goals
    rcases hr with ⟨hk, h6, hl, h7, h8⟩ | ⟨hk, h1, h2, hj, h9⟩
    · have h1 := hlog (by omega)
      by_cases h0 : m.es.length = 0
      all_goals
        refine run ?_
        refine .quiet rfl rfl rfl (Q.neqB rfl rfl rfl Tryz.underlying4) ?_
        refine run ?_
        refine .hit 6 rfl (by congr 1; omega : _ = nv (max m.lt 1)) ?_
        refine W.loopH (ι := Nat) (fun k => k ≤ m.es.length) (fun k => [(0, pt p), (3, pt z), (6, nv (max (if k = 0 then m.lt else ((m.es[k - 1]?).map (·.term)).getD 0) 1)), (7, nv k)])
          (fun k => [Blk true z (encM m A cp) 59, Rb false p c h s x, Rd false h.oA ((oth c s).flatMap (peerE s)), Rd false h.lA (les.flatMap encLE), Rd false A (mes.flatMap encLE)]) (fun k => m.es.length - k) 0 (Nat.zero_le _) subs (Picks.sub picks) ?_
        rintro k hkl ih
        by_cases hlt : k < m.es.length
        · first
          | exact absurd hlt (by omega)
          | (clear h8 h7 hl h6
             obtain ⟨en, hen⟩ : ∃ en, m.es[k]? = some en := ⟨_, List.getElem?_eq_getElem hlt⟩
             obtain ⟨y, hy⟩ : ∃ y, mes[k]? = some y := ⟨_, List.getElem?_eq_getElem (by omega)⟩
             obtain ⟨en', he1, he2⟩ := les_at hmes hy
             rw [hen] at he1
             injection he1 with he1
             subst he1
             have hga := hgo k en hen
             generalize hq : max (if k = 0 then m.lt else ((m.es[k - 1]?).map (·.term)).getD 0) 1 = q at hga
             obtain ⟨ye, yA, yc⟩ := y
             dsimp only at he2
             subst he2
             refine W.fact (fun w h => IsA.of (k := k * 3) hR (by exact pick) (by rw [flat_len lenLE]; omega) h) fun hA => ?_
             refine run ?_
             refine .new fun z6 => ?_
             refine RS.hit 115 rfl (rfl : _ = Value.agg [nv (m.idx + k + 1), nv en.term, .slice yA en.data.length yc].toArray) ?_
             refine run ?_
             refine .callQ (out_f (a := en.term) (lo := q) (hi := m.term) (by omega) (by omega)) ?_
             refine run ?_
             have e1 : max (if k + 1 = 0 then m.lt else ((m.es[k + 1 - 1]?).map (·.term)).getD 0) 1 = en.term := by rw [if_neg (by omega), Nat.add_sub_cancel, hen]; show max en.term 1 = _; omega
             have h2 := ih (k + 1) (by omega) (by omega)
             rw [e1] at h2
             exact .back h2)
        · clear ih
          by_cases h1 : m.term = s.term
          case' pos => have h2 := hl h1
          all_goals
            refine run ?_
            refine W.plan [] mixed (by rfl) (by kernel_rfl) ?_
            refine run ?_
            refine W.plan [29] mixed (by rfl) (by kernel_rfl) ?_
            refine run ?_
            refine .callQ hT ?_
            refine run ?_
            exact .retD Tryz.func89
    · have h20 := hes0 (by omega)
      refine run ?_
      refine .hit 6 rfl (by congr 1; omega : _ = nv (max m.lt 1)) ?_
      refine W.loopH (ι := Nat) (fun k => k ≤ m.es.length) (fun k => [(0, pt p), (3, pt z), (6, nv (max (if k = 0 then m.lt else ((m.es[k - 1]?).map (·.term)).getD 0) 1)), (7, nv k)])
        (fun k => [Blk true z (encM m A cp) 59, Rb false p c h s x, Rd false h.oA ((oth c s).flatMap (peerE s)), Rd false h.lA (les.flatMap encLE), Rd false A (mes.flatMap encLE)]) (fun k => m.es.length - k) 0 (Nat.zero_le _) subs (Picks.sub picks) ?_
      rintro k hkl ih
      by_cases hlt : k < m.es.length
      · exact absurd hlt (by omega)
      · clear ih
        refine run ?_
        refine RS.hit 155 rfl (by rw [hj] : _ = .bool false) ?_
        refine run ?_
        refine W.plan [] mixed (by rfl) (by kernel_rfl) ?_
        refine run ?_
        refine W.plan [29] mixed (by rfl) (by kernel_rfl) ?_
        refine run ?_
        refine W.plan [28] mixed (by rfl) (by kernel_rfl) ?_
        refine run ?_
        refine RG.hit 242 rfl (by rw [hj]; rfl : _ = .bool true) ?_
        refine run ?_
        refine .callQ hE ?_
        refine run ?_
        exact .retD Tryz.func89
theorem revent2e (hk : e.kind = 2) (h : FnQ Tryz.prog 89 [pt p, .agg (encM e.m e.A e.c).toArray].toArray [M, X] (.bool false)) :
    Fn Tryz.prog 69 [pt p, .agg (encV e).toArray].toArray [M, X, D] (Det (nv 161) [M, X, D]) := by
  refine Fn.enter Tryz.func69 rfl (by kernel_rfl) rfl ?_
  refine run ?_
  refine .box fun z => ?_
  refine run ?_
  refine .quiet rfl rfl rfl (Q.loadPart (vs := encM e.m e.A e.c) rfl rfl rfl rfl pick rfl rfl) ?_
  refine .callQ h ?_
  refine run ?_
  exact .retD Tryz.func69
theorem ev_wrong (hs : Siz c s) (hk : e.kind = 2) (hf : Fmd c s e.m) (hw : Wrg c s e.m) : EvGo c s e data s {} (161 : Nat) := by
  refine evgo_e hs (by omega) (by omega) fun A dA cp dc X D mes lbs h1 h2 h3 h4 h5 h6 h7 p => ⟨fun bs => ?_, ?_⟩
  · rw [show 71 + e.kind = 73 by omega]
    exact message_e (e := e.at A cp dA lbs.length dc) hs.sn hf h1 h5 hw
  · exact revent2e (e := e.at A cp dA lbs.length dc) hk (rmay_f hs.sn hf hw h1 h5)
end
end Go.SL
namespace Go.SL
open Go.Proofs Go.Proofs.YtocogcgnahbpkaaGreat
open Rs (Nd)
set_option maxRecDepth 10000
def wholeI (n lo hi : Int) : Int := lo + (if n.tmod (hi - lo + 1) < 0 then n.tmod (hi - lo + 1) + hi - lo + 1 else n.tmod (hi - lo + 1))
def wholeN (n : Int) (lo hi : Nat) : Nat := (wholeI n lo hi).toNat
theorem wholeI_in (n : Int) {lo hi : Nat} (h : lo ≤ hi) : (lo : Int) ≤ wholeI n lo hi ∧ wholeI n lo hi ≤ hi := by
  have hl := Int.lt_tmod_of_pos n (b := (hi : Int) - lo + 1) (by omega)
  have hh := Int.tmod_lt_of_pos n (b := (hi : Int) - lo + 1) (by omega)
  unfold wholeI
  split <;> omega
theorem wholeN_in (n : Int) {lo hi : Nat} (h : lo ≤ hi) : lo ≤ wholeN n lo hi ∧ wholeN n lo hi ≤ hi := by
  have := wholeI_in n h
  unfold wholeN; omega
theorem wholeN_eq (n : Int) {lo hi : Nat} (h : lo ≤ hi) : ((wholeN n lo hi : Nat) : Int) = wholeI n lo hi := by
  have := wholeI_in n h
  unfold wholeN; omega
attribute [local irreducible] W RS RG RT RD Fn FnQ OpS QOp Own Sat Rd Gr Mp Rg Lg Ms Es Nod Rp NodI RLg RMs REs RN RLd RNF EsD MsD NBk BkP BkRd BothI MapsP KnD NetP
theorem whole_q {n : Int} {lo hi : Nat} (h : lo ≤ hi) (hh : hi ≤ 1099511627776) : FnQ Tryz.prog 24 [iv n, nv lo, nv hi].toArray [] (nv (wholeN n lo hi)) := by
  have h1 := Int.lt_tmod_of_pos n (b := (hi : Int) - lo + 1) (by omega)
  have h2 := Int.tmod_lt_of_pos n (b := (hi : Int) - lo + 1) (by omega)
  have h3 := wholeN_eq n h
  refine Fn.quietD (M := []) ?_ (fun Q hQ => nomatch hQ)
  refine Fn.enter Tryz.func24 rfl (by kernel_rfl) rfl ?_
  refine run ?_
  refine .quiet rfl rfl rfl (Q.rem rfl rfl rfl (by omega)) ?_
  refine run ?_
  unfold wholeI at h3
  generalize hm : n.tmod ((hi : Int) - lo + 1) = m at *
  by_cases hneg : m < 0
  · rw [if_pos hneg] at h3
    have h4 : nv (wholeN n lo hi) = .int .i64 (lo + (m + hi - lo + 1)) := by show Value.int _ _ = _; rw [h3]
    refine W.hit 15 rfl (by rw [decide_eq_true hneg] : _ = .bool true) ?_
    refine run ?_
    rw [h4]
    exact .retD Tryz.func24
  · rw [if_neg hneg] at h3
    have h4 : nv (wholeN n lo hi) = .int .i64 (lo + m) := by show Value.int _ _ = _; rw [h3]
    refine W.hit 15 rfl (by rw [decide_eq_false hneg] : _ = .bool false) ?_
    refine run ?_
    rw [h4]
    exact .retD Tryz.func24
section
variable {c : Rf.Cfg} {bw : Nat} {a : WC} {ps : List Nat}
theorem seat_q {i : Int} (hn : 1 ≤ c.n ∧ c.n ≤ 5) (hl : ps.length = c.n) {p : Nat} (hp : ps[wholeN i 0 (c.n - 1)]? = some p) : FnQ Tryz.prog 14 [pt bw, iv i].toArray [Blk true bw (wcells c a) 43, Gr 1 35 a.SA c.n a.sc (ps.map pt)] (pt p) := by
  have hin := wholeN_in i (lo := 0) (hi := c.n - 1) (Nat.zero_le _)
  refine FnQ.pre (Fn.quietD (M := [Blk false bw (wcells c a) 43, Rd false a.SA (ps.map pt)]) ?_ (fun Q hQ => by
    simp only [List.mem_cons, List.not_mem_nil, or_false] at hQ
    rcases hQ with rfl | rfl
    · exact Pers.own
    · exact Rd.pers)) (lend1.frame.trans (.cons _ (.of Reads.gr)))
  have hR : Reads (Rd false a.SA (ps.map pt)) a.SA (ps.map pt) := .rd
  refine Fn.enter Tryz.func14 rfl (by kernel_rfl) rfl ?_
  refine W.fact (fun w h => IsA.of (k := wholeN i 0 (c.n - 1)) hR (by exact pick) (by rw [List.length_map]; omega) h) fun hA => ?_
  refine run ?_
  refine W.plan [11] mixed (by rfl) (by kernel_rfl) ?_
  refine run ?_
  refine RG.hit 15 rfl (by congr 1; omega : _ = nv (c.n - 1)) ?_
  refine .callQ (whole_q (lo := 0) (hi := c.n - 1) (n := i) (Nat.zero_le _) (by omega)) ?_
  refine run ?_
  refine RG.take rfl rfl rfl rfl (R.load (v := pt p) rfl rfl rfl rfl hR pick (by rw [Nat.mul_one]; simp [hp])) ?_ rfl
  refine run ?_
  exact .retD Tryz.func14
end
def cfgOf (n l m b q : Int) : Rf.Cfg := ⟨wholeN n 1 5, wholeN l 2 12, wholeN l 2 12 + wholeN m 3 15, wholeN b 1 (wholeN l 2 12 - 1), wholeN q 1 16⟩
theorem config_n {n l m b q : Int} : Fn Tryz.prog 9 [iv n, iv l, iv m, iv b, iv q].toArray [] (fun v L => ∃ A pc, v = .agg (cfgV (cfgOf n l m b q) 0 A pc).toArray ∧ L = [Gr 1 3 A (cfgOf n l m b q).n pc (peersL (cfgOf n l m b q))]) := by
  have h1 := wholeN_in n (lo := 1) (hi := 5) (by omega)
  have h2 := wholeN_in l (lo := 2) (hi := 12) (by omega)
  have h3 := wholeN_in m (lo := 3) (hi := 15) (by omega)
  have h4 := wholeN_in b (lo := 1) (hi := wholeN l 2 12 - 1) (by omega)
  have h5 := wholeN_in q (lo := 1) (hi := 16) (by omega)
  refine Fn.enter Tryz.func9 rfl (by kernel_rfl) rfl ?_
  refine run ?_
  refine .new fun z10 => ?_
  refine run ?_
  refine .callQ (whole_q (lo := 2) (hi := 12) (n := l) (by omega) (by omega)) ?_
  refine run ?_
  refine .new fun z11 => ?_
  refine run ?_
  refine W.plan [3] mixed (by rfl) (by kernel_rfl) ?_
  refine run ?_
  refine .callQ (whole_q (lo := 3) (hi := 15) (n := m) (by omega) (by omega)) ?_
  refine run ?_
  refine RS.hit 25 rfl (by congr 1; omega : _ = nv (wholeN l 2 12 - 1)) ?_
  refine .callQ (whole_q (lo := 1) (hi := wholeN l 2 12 - 1) (n := b) (by omega) (by omega)) ?_
  refine run ?_
  refine .callQ (whole_q (lo := 1) (hi := 16) (n := q) (by omega) (by omega)) ?_
  refine run ?_
  refine .ent (Ent.mk (X := Gr 1 3 none 0 0 []) fun r => .nil) ?_
  refine W.loopH (ι := Nat × Option Addr × Nat) (fun i => i.1 ≤ wholeN n 1 5) (fun i => [(0, iv n), (11, pt z11), (10, pt z10), (12, nv (i.1 + 1))])
    (fun i => [Blk true z11 [iv 0, .slice i.2.1 i.1 i.2.2, nv (wholeN l 2 12), nv (wholeN l 2 12 + wholeN m 3 15), nv (wholeN b 1 (wholeN l 2 12 - 1)), nv (wholeN q 1 16)] 27, Blk true z10 [iv 0, .slice none 0 0, iv 0, iv 0, iv 0, iv 0] 27, Gr 1 3 i.2.1 i.1 i.2.2 ((li (List.range' 1 i.1)).map iv)]) (fun i => wholeN n 1 5 - i.1) (0, none, 0) (Nat.zero_le _) subs (by exact Picks.sub picks) ?_
  rintro ⟨k, A, pc⟩ hk ih
  dsimp only at hk ih ⊢
  by_cases hlt : k < wholeN n 1 5
  · refine run ?_
    refine .callQ (whole_q (lo := 1) (hi := 5) (n := n) (by omega) (by omega)) ?_
    refine run ?_
    refine .lit fun z => ?_
    refine run ?_
    refine .push (sz := 1) (m := 1) (Src.pick (cs := [nv (k + 1)]) rfl rfl .hd .own rfl rfl rfl) fun A3 c3 => ?_
    refine run ?_
    have e1 : (li (List.range' 1 (k + 1))).map iv = (li (List.range' 1 k)).map iv ++ [nv (k + 1)] := by
      rw [List.range'_1_concat]; simp [li, Nat.add_comm]
    have h6 := ih (k + 1, A3, c3) (by dsimp only; omega) (by dsimp only; omega)
    dsimp only at h6
    rw [e1] at h6
    exact .back h6
  · have hkk : k = wholeN n 1 5 := by omega
    subst hkk
    refine run ?_
    refine .callQ (whole_q (lo := 1) (hi := 5) (n := n) (by omega) (by omega)) ?_
    refine run ?_
    exact .retE Tryz.func9 ⟨A, pc, rfl, rfl⟩ (.r1 .agg)
end Go.SL
namespace Go.SL
open Go.Proofs Go.Proofs.YtocogcgnahbpkaaGreat
open Rs (Nd)
set_option maxRecDepth 10000
def reb (s : Nd) (cm : Nat) : Nd := { id := s.id, term := s.term, vote := s.vote, log := s.log, snap := s.snap, commit := cm }
theorem reb_fresh (s : Nd) (cm : Nat) : Fresh (reb s cm) := ⟨rfl, rfl, rfl, rfl⟩
theorem reb_blank (s : Nd) (cm : Nat) : Blank (reb s cm) := ⟨rfl, rfl, rfl, rfl, rfl⟩
attribute [local irreducible] W RS RG RT RD Fn FnQ OpS QOp Own Sat Rd Gr Mp Rg Lg Ms Es Nod Rp NodI RLg RMs REs RN RLd RNF EsD MsD NBk BkP BkRd BothI MapsP KnD NetP
section
variable {c : Rf.Cfg} {bw bs cm cm0 mo ro le : Nat} {a : WC} {s : Nd} {lA : Option Addr} {lc : Nat} {vB : Value} {dr : Int}
theorem begin_n {pA : Option Addr} {pc : Nat} {r1 r2 r3 r4 r5 r6 r7 r8 : Value} (hc : CfgOk c) (hs : Sn c (reb s cm)) (hst : StOk c (reb s cm)) (hd : ∀ x ∈ s.log, x.data.length ≤ 140737488351232) :
    Fn Tryz.prog 23 [pt bw, pt bs, nv cm, iv dr, .bool true].toArray
    [Blk true bw [iv 0, .slice pA c.n pc, nv c.least, nv c.most, nv c.beat, nv c.batch, r1, r2, r3, r4, r5, r6, r7, r8] 43, Blk true bs [nv s.id, .pointer none, vB, nv s.term, nv s.vote, nv s.snap, nv (s.tm s.snap), .slice lA (s.log.length - s.snap) lc, nv cm0, nv mo, nv ro, nv le] 52, RLd lA s.snap (s.log.drop s.snap), Rd false pA (peersL c)]
    (fun v L => ∃ p, v = .bool true ∧ L = [Blk true bw [iv 0, .slice pA c.n pc, nv c.least, nv c.most, nv c.beat, nv c.batch, r1, r2, r3, r4, r5, r6, r7, r8] 43, Blk true bs (scells ⟨true, p, s.id, lA, lc, cm, mo, 1, 0⟩ (Rs.rest c dr (reb s cm))) 52, BothI p c (Rs.rest c dr (reb s cm)), RLd lA s.snap (s.log.drop s.snap), Rd false pA (peersL c)]) := by
  have hl := hst.log
  have hl1 : s.log.length ≤ 65536 := hl.1
  refine Fn.enter Tryz.func23 rfl (by kernel_rfl) rfl ?_
  refine .first (RLd lA s.snap (s.log.drop s.snap)) ?_
  refine .rld fun les hles => ?_
  have hlen := les_len hles
  rw [List.length_drop] at hlen
  have hdd : ∀ y ∈ les, y.e.data.length ≤ 140737488351232 := fun y hy => by
    obtain ⟨j, hj⟩ := List.mem_iff_getElem?.1 hy
    obtain ⟨en, h1, h2⟩ := les_at hles hj
    rw [h2]; exact hd en (List.mem_of_mem_drop (List.mem_of_getElem? h1))
  have hC := copyLog_n (A := lA) (cp := lc) (l := les) (by omega) hdd
  rw [hlen] at hC
  refine run ?_
  refine .quiet rfl rfl rfl (Q.loadP rfl rfl rfl rfl pick rfl) ?_
  refine .new fun z11 => ?_
  refine run ?_
  refine W.plan [1021] mixed (by rfl) (by kernel_rfl) ?_
  refine run ?_
  refine RG.take rfl rfl rfl rfl (Q.loadP rfl rfl rfl rfl pick rfl) ?_ rfl
  refine run ?_
  refine .two ?g1 ?g2
  case' g1 =>
    refine .callN hC (Picks.sub (a := [Rd false lA (les.flatMap encLE), Ds les]) picks) ?_
    rintro v M ⟨l', A2, c2, rfl, h2, rfl⟩
    refine runR ?_
    refine .new fun z12 => ?_
  case' g2 =>
    refine .new fun z12 => ?_
    refine .callN hC (Picks.sub (a := [Rd false lA (les.flatMap encLE), Ds les]) picks) ?_
    rintro v M ⟨l', A2, c2, rfl, h2, rfl⟩
  all_goals
    rw [hles] at h2
    have hl2 := les_len h2
    rw [List.length_drop] at hl2
    rw [hl2]
    refine run ?_
    have hd2 : ∀ y ∈ l', y.e.data.length ≤ 140737488351232 := fun y hy => by
      obtain ⟨j, hj⟩ := List.mem_iff_getElem?.1 hy
      obtain ⟨en, h3, h4⟩ := les_at h2 hj
      rw [h4]; exact hd en (List.mem_of_mem_drop (List.mem_of_getElem? h3))
    refine .callE (begun_n (s := reb s cm) (X := Rd false pA (peersL c)) (Y := Gr 3 67 A2 (s.log.length - s.snap) c2 (l'.flatMap encLE)) (D := Gs l') (A := A2) (cp := c2) (pA := pA) (pc := pc) (mes := l') (d := dr) hc hs hst (reb_fresh s cm) (reb_blank s cm) .rd .gr (fun r h => Gs.ds h) h2 hd2) ?_
    rintro v L ⟨p, rfl, rfl⟩
    refine run ?_
    refine .quiet rfl rfl rfl (Q.neNilP (p := some ⟨p, 0, none⟩) rfl rfl rfl rfl rfl) ?_
    refine run ?_
    refine .ent ((Picks.ent (a := [Rd false lA (les.flatMap encLE), Ds les]) picks).trans (RLd.close hles)) ?_
    exact .retE Tryz.func23 ⟨p, rfl, rfl⟩
def cmOf (k : Int) (s : Nd) (cm : Nat) : Nat := if s.snap < cm then wholeN k s.snap cm else s.snap
theorem crash_n {x : SC} {k : Int} (hbo : x.bo = true) (hid : x.id = s.id) (hcm : x.cm ≤ 1000000) (hc : CfgOk c) (hs : Sn c (reb s (cmOf k s x.cm))) (hst : StOk c (reb s (cmOf k s x.cm))) (hd : ∀ x ∈ s.log, x.data.length ≤ 140737488351232) :
    Fn Tryz.prog 19 [pt bw, pt bs, iv k, iv dr].toArray
    [Blk true bw (wcells c a) 43, Blk true bs (scells x s) 52, RLd x.lA s.snap (s.log.drop s.snap), Rd false a.pA (peersL c)]
    (fun v L => ∃ p, v = .bool true ∧ L = [Blk true bw (wcells c a) 43, Blk true bs (scells ⟨true, p, s.id, x.lA, x.lc, cmOf k s x.cm, x.mo, 1, 0⟩ (Rs.rest c dr (reb s (cmOf k s x.cm)))) 52, BothI p c (Rs.rest c dr (reb s (cmOf k s x.cm))), RLd x.lA s.snap (s.log.drop s.snap), Rd false a.pA (peersL c)]) := by
  have hl := hst.log
  have hcl : scells x s = [nv s.id, .pointer none, pt x.a, nv s.term, nv s.vote, nv s.snap, nv (s.tm s.snap), .slice x.lA (s.log.length - s.snap) x.lc, nv x.cm, nv x.mo, nv x.ro, nv x.le] := by
    unfold scells ptIf; rw [hbo, hid]; rfl
  have hB := begin_n (pA := a.pA) (pc := a.pc) (r1 := .slice a.SA c.n a.sc) (r2 := .slice a.NA a.nn a.nc) (r3 := .map (some a.mL)) (r4 := .map (some a.mV)) (r5 := .map (some a.mK)) (r6 := .map (some a.mT)) (r7 := nv a.hi) (r8 := .bool a.calm) (bw := bw) (bs := bs) (lA := x.lA) (lc := x.lc) (cm0 := x.cm) (mo := x.mo) (ro := x.ro) (le := x.le) (vB := pt x.a) (dr := dr) hc hs hst hd
  rw [hcl]
  refine Fn.enter Tryz.func19 rfl (by kernel_rfl) rfl ?_
  unfold cmOf at *
  by_cases hlt : s.snap < x.cm
  · rw [if_pos hlt] at *
    refine run ?_
    refine .callQ (whole_q (lo := s.snap) (hi := x.cm) (n := k) (by omega) (by omega)) ?_
    refine run ?_
    refine .quiet rfl rfl rfl (Q.neNilP (p := some ⟨x.a, 0, none⟩) rfl rfl rfl rfl rfl) ?_
    refine run ?_
    refine .callE hB ?_
    rintro v L ⟨p, rfl, rfl⟩
    refine run ?_
    exact .retE Tryz.func19 ⟨p, rfl, rfl⟩
  · rw [if_neg hlt] at *
    refine run ?_
    refine .quiet rfl rfl rfl (Q.neNilP (p := some ⟨x.a, 0, none⟩) rfl rfl rfl rfl rfl) ?_
    refine run ?_
    refine .callE hB ?_
    rintro v L ⟨p, rfl, rfl⟩
    refine run ?_
    exact .retE Tryz.func19 ⟨p, rfl, rfl⟩
end
end Go.SL
