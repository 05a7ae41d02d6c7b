/-
  A part of the proof of what E53 says at its head.
-/
import Derived.Test.YtocogcgnahbpkaaGreatE14
namespace Go.SL
open Go.Proofs Go.Proofs.YtocogcgnahbpkaaGreat
open Rs (Nd)
attribute [local irreducible] W RS RG RD Fn FnQ OpS QOp Own Sat Rd Gr Mp Rg Lg Ms Es Nod Rp
set_option maxRecDepth 10000
section
variable {c : Cfg} {h : HW} {s : Nd} {x : EX} {p bs : Nat} {d : Int} {l0 : List Rf.Ent} {fl : Nat × Nat} {ms : List Rf.Msg}
abbrev xS (d : Int) (n f : Nat) (fl : Nat × Nat) : EX := ⟨d, n, f, fl.1, fl.2⟩
abbrev NodS (p : Nat) (c : Cfg) (bs : Nat) (d : Int) (l0 : List Rf.Ent) (fl : Nat × Nat) (s : Nd) (ms : List Rf.Msg) : HP := Nod p c bs s ⟨d, ms.length, fr l0 s.log, fl.1, fl.2⟩ ms
theorem NodS.eq {n f : Nat} (h1 : ms.length = n) (h2 : fr l0 s.log = f) : NodS p c bs d l0 fl s ms = Nod p c bs s (xS d n f fl) ms := by subst h1; subst h2; rfl
theorem oth_nodup : (oth c s).Nodup := (List.nodup_range' ..).filter _
theorem apps_len : (Rs.apps c s).length = (oth c s).length := by unfold Rs.apps; rw [List.length_map]
theorem countFrom_bd : ∀ i, s.commit ≤ Rs.countFrom c s i ∧ Rs.countFrom c s i ≤ max s.commit i
  | 0 => by unfold Rs.countFrom; omega
  | i + 1 => by
    have := countFrom_bd i
    unfold Rs.countFrom
    split
    · omega
    · split
      · split <;> omega
      · omega
theorem Sn.count (hs : Sn c s) : Sn c (Rs.count c s) := by
  have hf := hs.fin
  have hc := countFrom_bd (c := c) (s := s) s.log.length
  refine hs.mk hs.id hs.term ⟨Nat.le_trans hf.1 hc.1, Nat.le_trans hc.2 ?_, hf.2.2.1, hf.2.2.2⟩ hs.data hs.el
  show max s.commit s.log.length ≤ s.log.length
  omega
def lead1 (s : Nd) : Nd := { s with role := 4, leader := s.id, heir := 0, elapsed := 0, beat := 0, mt := fun _ => 0, nx := fun _ => s.fin + 1, hd := [] }
def lead2 (s : Nd) : Nd := if s.log.length < 1099511627776 then upN (lead1 s) [⟨s.term, []⟩] else lead1 s
theorem lead_eq : Rs.lead c s = (Rs.count c (lead2 s), Rs.apps c (Rs.count c (lead2 s))) := by
  unfold Rs.lead lead2
  by_cases h : s.log.length < 1099511627776
  · rw [if_pos h]
    simp only [Rs.Nd.fin, h, if_true]; rfl
  · rw [if_neg h]
    simp only [Rs.Nd.fin, h, if_false]; rfl
theorem Sn.lead1 (hs : Sn c s) : Sn c (lead1 s) := hs.mk hs.id hs.term hs.fin hs.data ⟨by show 0 ≤ _; omega, by show 0 ≤ _; omega⟩
theorem Sn.up (hs : Sn c s) {new : List Rf.Ent} (h1 : s.log.length + new.length ≤ 1099511627776) (h2 : s.log.length + new.length ≤ s.snap + 65536) (h3 : ∀ e ∈ new, e.data.length ≤ 140737488351232) : Sn c (upN s new) := by
  have hf := hs.fin
  refine hs.mk hs.id hs.term ⟨hf.1, ?_, ?_, ?_⟩ (fun e he => ?_) hs.el
  · show s.commit ≤ (s.log ++ new).length; rw [List.length_append]; omega
  · show (s.log ++ new).length ≤ _; rw [List.length_append]; omega
  · show (s.log ++ new).length ≤ s.snap + _; rw [List.length_append]; omega
  · rcases List.mem_append.1 he with he | he
    · exact hs.data e he
    · exact h3 e he
theorem tm_app {s : Nd} {new : List Rf.Ent} {i : Nat} (hi : i ≤ s.log.length) : (upN s new).tm i = s.tm i := by
  unfold upN Rs.Nd.tm Rf.tmL
  by_cases h0 : i = 0
  · rw [if_pos h0, if_pos h0]
  · rw [if_neg h0, if_neg h0]; show (((s.log ++ new)[i - 1]?).map _).getD 0 = _; rw [List.getElem?_append_left (by omega)]
theorem lead_ok (hs : Sn c s) (hm : ms.length ≤ 400) (hr : s.log.length < 65536) : Fn Tryz.prog 155 [pt p].toArray [NodS p c bs d s.log fl s ms]
    (Det (.tuple #[]) [NodS p c bs d s.log fl (Rs.lead c s).1 (ms ++ (Rs.lead c s).2)]) := by
  rw [lead_eq]
  have hf := hs.fin
  have hn := hs.n
  have hcf := hs.cf
  have hol := oth_len (c := c) (s := s) hn.2
  refine Fn.enter Tryz.func155 rfl (by kernel_rfl) rfl ?_
  refine .nod fun h hh => ?_
  refine run ?_
  refine .mkMap (k := 3) (kenc := nv) (venc := nv) fun bm => ?_
  refine .mkMap (k := 3) (kenc := nv) (venc := nv) fun bn => ?_
  refine .mkMap (k := 3) (kenc := nv) (venc := uv) fun bh => ?_
  refine run ?_
  refine .callE (others_ok (s := lead1 s) (x := ⟨d, ms.length, fr s.log s.log, fl.1, fl.2⟩) (p := p) (c := c) (h := { h with mt := some bm, nx := some bn, hd := some bh }) peersG hn.2) ?_
  rintro v L ⟨A, c', rfl, rfl⟩
  refine run ?_
  refine W.loopH (ι := Nat) (fun k => k ≤ (oth c s).length) (fun k => [(0, pt p), (37, .slice A (oth c s).length c'), (38, nv (oth c s).length), (39, nv k)])
    (fun k => [Gr 1 3 A (oth c s).length c' ((li (oth c s)).map iv), Nb true p c { h with mt := some bm, nx := some bn, hd := some bh } (lead1 s) ⟨d, ms.length, fr s.log s.log, fl.1, fl.2⟩, PeersG c h, LgN h s, MI bm (lead1 s).mt ((oth c s).take k), MI bn (lead1 s).nx ((oth c s).take k), MB bh [], MB bs (sk ms), Ms h.mA ms.length h.mc ms])
    (fun k => (oth c s).length - k) 0 (Nat.zero_le _) subs (by rw [List.take_zero]; exact Picks.sub picks) ?_
  rintro k hk ih
  by_cases hlt : k < (oth c s).length
  · obtain ⟨y, hy⟩ : ∃ y, (oth c s)[k]? = some y := ⟨_, List.getElem?_eq_getElem hlt⟩
    have hym := oth_le (List.mem_of_getElem? hy)
    have hyn : y ∉ (oth c s).take k := fun hm => by
      obtain ⟨j, hj⟩ := List.mem_iff_getElem?.1 hm
      have hjk : j < k := by have := (List.getElem?_eq_some_iff.1 hj).1; simp at this; omega
      rw [List.getElem?_take_of_lt hjk] at hj
      have := (List.getElem?_inj (by omega) oth_nodup).1 (hj.trans hy.symm)
      omega
    have htk : (oth c s).take (k + 1) = (oth c s).take k ++ [y] := by rw [List.take_add_one, hy]; rfl
    refine W.fact (fun w h => IsA.of (k := k) (Reads.gr (sz := 1) (E := 3)) .hd (by simpa using hlt) h) fun hA => ?_
    refine run ?_
    refine .quiet rfl rfl rfl (R.load (v := nv y) rfl rfl rfl rfl .gr pick (by rw [Nat.mul_one]; simp [hy])) ?_
    refine run ?_
    refine W.plan [11] mixed (by rfl) (by kernel_rfl) ?_
    refine run ?_
    refine .callQ (v := nv s.log.length) (end_q (c := c) (s := lead1 s) (h := { h with mt := some bm, nx := some bn, hd := some bh }) ((Sn.lead1 hs).set hh.1 hh.2.1)) ?_
    refine run ?_
    refine .act rfl rfl rfl rfl (O.mapEntry (venc := nv) (zb := 0) K3 (i := y) rfl rfl rfl zero3 rfl rfl (by unfold okN; omega) pick) ?_
    rintro v L ⟨st, u, rfl, rfl⟩
    refine run ?_
    refine .det0 rfl rfl rfl (O.entryStore (venc := nv) (v := 0) K3 rfl rfl rfl rfl pick) ?_
    rw [kput_new (f := (lead1 s).mt) (v := 0) hyn rfl, ← htk]
    refine run ?_
    refine .act rfl rfl rfl rfl (O.mapEntry (venc := nv) (zb := 0) K3 (i := y) rfl rfl rfl zero3 rfl rfl (by unfold okN; omega) pick) ?_
    rintro v L ⟨st, u, rfl, rfl⟩
    refine run ?_
    refine .det0 rfl rfl rfl (O.entryStore (venc := nv) (v := s.log.length + 1) K3 rfl rfl rfl rfl pick) ?_
    rw [kput_new (f := (lead1 s).nx) (v := s.log.length + 1) hyn rfl, ← htk]
    refine run ?_
    exact .back (ih (k + 1) hlt (by omega))
  · have hk : k = (oth c s).length := by omega
    subst hk
    rw [List.take_length]
    refine run ?_
    refine .callQ (v := nv s.log.length) (end_q (c := c) (s := lead1 s) (h := { h with mt := some bm, nx := some bn, hd := some bh }) ((Sn.lead1 hs).set hh.1 hh.2.1)) ?_
    refine run ?_
    refine W.plan [2] mixed (by rfl) (by kernel_rfl) ?_
    refine run ?_
    refine .callQ (v := nv s.log.length) (end_q (c := c) (s := lead1 s) (h := { h with mt := some bm, nx := some bn, hd := some bh }) ((Sn.lead1 hs).set hh.1 hh.2.1)) ?_
    refine run ?_
    refine .lit fun z => ?_
    refine run ?_
    refine .ent (Ent.mk (X := Gs []) fun _ => trivial) ?_
    refine .callE (join_ok (x := ⟨d, ms.length, fr s.log s.log, fl.1, fl.2⟩) (p := p) (s := lead1 s) (h := { h with mt := some bm, nx := some bn, hd := some bh }) (l := [⟨⟨(s.log.length : Int) + 1, s.term, []⟩, none, 0⟩]) (cp := 1) (D := Gs []) (new := [⟨s.term, []⟩]) ((Sn.lead1 hs).set hh.1 hh.2.1) .own (fun _ _ y hy => by rw [List.mem_singleton.1 hy]; exact Rd.nil) rfl (by show s.log.length - s.snap + 1 ≤ _; omega) (by simp)) ?_
    rintro v L ⟨rfl, A3, c3, rfl⟩
    refine run ?_
    have hs2 : Sn c (lead2 s) := by
      unfold lead2; rw [if_pos (by omega)]
      exact (Sn.lead1 hs).up (by show s.log.length + 1 ≤ _; omega) (by show s.log.length + 1 ≤ s.snap + _; omega) (by simp)
    have e2 : lead2 s = upN (lead1 s) [⟨s.term, []⟩] := by unfold lead2; rw [if_pos (by omega)]
    rw [e2] at hs2 ⊢
    have hlen2 : (upN (lead1 s) [⟨s.term, []⟩]).log.length = s.log.length + 1 := by show (s.log ++ [_]).length = _; simp
    have hh2 : HwOk bs (upN (lead1 s) [⟨s.term, []⟩]) { h with mt := some bm, nx := some bn, hd := some bh, lA := A3, lc := c3, ln := h.ln + 1 } := by
      refine ⟨?_, ?_, hh.2.2⟩
      · rw [hlen2]; show h.ln + 1 = s.log.length + 1 - s.snap; rw [hh.1]; omega
      · rw [tm_app (by show s.snap ≤ s.log.length; omega)]; exact hh.2.1
    have hsm := hs2.at hh2
    have hsm3 := (hs2.count).set (h' := { h with mt := some bm, nx := some bn, hd := some bh, lA := A3, lc := c3, ln := h.ln + 1 }) hh2.1 hh2.2.1
    refine .callD (count_ok (c := c) (h := { h with mt := some bm, nx := some bn, hd := some bh, lA := A3, lc := c3, ln := h.ln + 1 }) (s := upN (lead1 s) [⟨s.term, []⟩]) (b := bm) hsm rfl) ?_
    refine run ?_
    refine .callE (sendAll_ok (c := c) (h := { h with mt := some bm, nx := some bn, hd := some bh, lA := A3, lc := c3, ln := h.ln + 1 }) (s := Rs.count c (upN (lead1 s) [⟨s.term, []⟩])) (x := ⟨d, ms.length, fj (fr s.log s.log) s.log.length [⟨s.term, []⟩], fl.1, fl.2⟩) (p := p) (ms := ms) (XP := PeersG c h) peersG hsm3
      (fun y _ => ⟨by show 1 ≤ s.log.length + 1; omega, by show s.log.length + 1 ≤ (upN (lead1 s) [⟨s.term, []⟩]).log.length + 1; omega⟩) (by show ms.length ≤ 500; omega) rfl hh.2.2) ?_
    rintro v L ⟨rfl, A4, c4, rfl⟩
    refine run ?_
    have eN : NodS p c bs d s.log fl (Rs.count c (upN (lead1 s) [⟨s.term, []⟩])) (ms ++ Rs.apps c (Rs.count c (upN (lead1 s) [⟨s.term, []⟩]))) = Nod p c bs (Rs.count c (upN (lead1 s) [⟨s.term, []⟩])) ⟨d, ms.length + (oth c s).length, fj (fr s.log s.log) s.log.length [⟨s.term, []⟩], fl.1, fl.2⟩ (ms ++ Rs.apps c (Rs.count c (upN (lead1 s) [⟨s.term, []⟩]))) := by
      have e1 : (ms ++ Rs.apps c (Rs.count c (upN (lead1 s) [⟨s.term, []⟩]))).length = ms.length + (oth c s).length := by rw [List.length_append, apps_len]; rfl
      have e2 : fr s.log (Rs.count c (upN (lead1 s) [⟨s.term, []⟩])).log = fj (fr s.log s.log) s.log.length [⟨s.term, []⟩] := by
        rw [show (Rs.count c (upN (lead1 s) [⟨s.term, []⟩])).log = s.log ++ [⟨s.term, []⟩] from rfl, fr_self, fr_app (by simp)]; rfl
      unfold NodS
      rw [e1, e2]
    dsimp only
    rw [eN]
    refine .ent ((Picks.ent (a := [MI bm (lead1 s).mt (oth c s), MI bn (lead1 s).nx (oth c s), MB bh []]) picks).trans (Rp.c4 (c := c) (h := { h with mt := some bm, nx := some bn, hd := some bh, lA := A3, lc := c3, ln := h.ln + 1, mA := A4, mc := c4 }) (s := Rs.count c (upN (lead1 s) [⟨s.term, []⟩])) rfl rfl rfl rfl)) ?_
    refine .ent ((Picks.ent (a := [Nb true p c { h with mt := some bm, nx := some bn, hd := some bh, lA := A3, lc := c3, ln := h.ln + 1, mA := A4, mc := c4 } (Rs.count c (upN (lead1 s) [⟨s.term, []⟩])) ⟨d, ms.length + (oth c s).length, fj (fr s.log s.log) s.log.length [⟨s.term, []⟩], fl.1, fl.2⟩, PeersG c h, _, _, _, _]) picks).trans
      (Nod.close (c := c) (s := Rs.count c (upN (lead1 s) [⟨s.term, []⟩])) { h with mt := some bm, nx := some bn, hd := some bh, lA := A3, lc := c3, ln := h.ln + 1, mA := A4, mc := c4 } ⟨hsm3.ln, hsm3.tS, hh.2.2⟩)) ?_
    exact .doneD Tryz.func155
section
variable {P : Program} {n f : Nat} {e : Env} {L L' : List HP} {R : Fin} {k : List Item} {ds : List Deferred} {ops : Array Oper} {rest : List Oper} {C : Env → List HP → Prop}
theorem W.shutS (h h0 : HW) (s s0 : Nd) (hh : HwOk bs s h) (hn : W P f n R k e ds (NodS p c bs d l0 fl s ms :: L')) (hp : Picks [Nb true p c h s ⟨d, ms.length, fr l0 s.log, fl.1, fl.2⟩, PeersG c h, LgN h s, Rp c h0 s0, MB bs (sk ms), Ms h.mA ms.length h.mc ms] L L' := by exact picks) (hr : Rp c h s = Rp c h0 s0 := by exact Rp.as rfl rfl rfl rfl rfl rfl rfl rfl rfl rfl rfl rfl) : W P f n R k e ds L :=
  .ent (Nod.shut h h0 s s0 hh hr hp) hn
theorem RS.shutS (h h0 : HW) (s s0 : Nd) (hh : HwOk bs s h) (hn : RS P n ops rest C e (NodS p c bs d l0 fl s ms :: L')) (hp : Picks [Nb true p c h s ⟨d, ms.length, fr l0 s.log, fl.1, fl.2⟩, PeersG c h, LgN h s, Rp c h0 s0, MB bs (sk ms), Ms h.mA ms.length h.mc ms] L L' := by exact picks) (hr : Rp c h s = Rp c h0 s0 := by exact Rp.as rfl rfl rfl rfl rfl rfl rfl rfl rfl rfl rfl rfl) : RS P n ops rest C e L :=
  .ent (Nod.shut h h0 s s0 hh hr hp) hn
theorem RG.shutS {qs : List Nat} {T : List HP} {pl : Pl} (h h0 : HW) (s s0 : Nd) (hh : HwOk bs s h) (hn : RG P n qs T ops pl C e (NodS p c bs d l0 fl s ms :: L')) (hp : Picks [Nb true p c h s ⟨d, ms.length, fr l0 s.log, fl.1, fl.2⟩, PeersG c h, LgN h s, Rp c h0 s0, MB bs (sk ms), Ms h.mA ms.length h.mc ms] L L' := by exact picks) (hr : Rp c h s = Rp c h0 s0 := by exact Rp.as rfl rfl rfl rfl rfl rfl rfl rfl rfl rfl rfl rfl) : RG P n qs T ops pl C e L :=
  .ent (Nod.shut h h0 s s0 hh hr hp) hn
end
end
end Go.SL
namespace Go.SL
open Go.Proofs Go.Proofs.YtocogcgnahbpkaaGreat
open Rs (Nd)
attribute [local irreducible] W RS RG RD Fn FnQ OpS QOp Own Sat Rd Gr Mp Rg Lg Ms Es Nod Rp
set_option maxRecDepth 10000
section
variable {c : Cfg} {h : HW} {s : Nd} {x : EX} {p bs : Nat} {d : Int} {l0 : List Rf.Ent} {fl : Nat × Nat} {ms : List Rf.Msg}
theorem sk_map {f : Nat → Rf.Msg} {l : List Nat} (hf : ∀ y, (f y).kind ≠ 7) : sk (ms ++ l.map f) = sk ms := by
  induction l generalizing ms with
  | nil => simp
  | cons a l ih => rw [List.map_cons, show ms ++ f a :: l.map f = (ms ++ [f a]) ++ l.map f by simp, ih, sk_snoc, if_neg (hf a)]
def stand1 (c : Cfg) (d : Int) (s : Nd) : Nd := Rs.rest c d { s with term := s.term + 1, vote := s.id, role := 3, leader := 0, heir := 0, gr := [s.id], rf := [] }
def voteM (hint : Nat) (s : Nd) (y : Nat) : Rf.Msg := { kind := 3, src := s.id, dst := y, term := s.term, idx := s.fin, lt := s.tm s.fin, hint := hint }
theorem stand_eq {hint : Nat} : Rs.stand c d hint s = if Rs.maj c 1 then Rs.lead c (stand1 c d s) else (stand1 c d s, (oth c s).map (voteM hint (stand1 c d s))) := rfl
theorem Sn.stand1 (hs : Sn c s) (ht : s.term < 1099511627776) : Sn c (stand1 c d s) := hs.mk hs.id (by show s.term + 1 ≤ _; omega) hs.fin hs.data ⟨by show 0 ≤ _; omega, hs.el.2⟩
theorem stand_ok {b : Bool} (hs : Sn c s) (hm : ms.length ≤ 300) (hr : s.log.length < 65536) (ht : s.term < 1099511627776) : Fn Tryz.prog 137 [pt p, .bool b].toArray [NodS p c bs d s.log fl s ms]
    (Det (.tuple #[]) [NodS p c bs d s.log fl (Rs.stand c d (if b then 1 else 0) s).1 (ms ++ (Rs.stand c d (if b then 1 else 0) s).2)]) := by
  rw [stand_eq]
  have hf := hs.fin
  have hn := hs.n
  have hcf := hs.cf
  have hol := oth_len (c := c) (s := s) hn.2
  have hid := hs.id
  refine Fn.enter Tryz.func137 rfl (by kernel_rfl) rfl ?_
  refine .nod fun h hh => ?_
  refine run ?_
  refine W.plan [] mixed (by rfl) (by kernel_rfl) ?_
  refine run ?_
  refine .callD (rest_ok (c := c) (x := ⟨d, ms.length, fr s.log s.log, fl.1, fl.2⟩) (h := h) (s := { s with term := s.term + 1, vote := s.id, role := 3, leader := 0, heir := 0 }) hcf) ?_
  refine run ?_
  refine .mkMap (k := 3) (kenc := nv) (venc := uv) fun bg => ?_
  refine run ?_
  refine .insB (l := []) s.id (by unfold okN; omega) ?_
  refine run ?_
  refine .mkMap (k := 3) (kenc := nv) (venc := uv) fun br => ?_
  refine run ?_
  have hs1 : Sn c (stand1 c d s) := hs.stand1 ht
  have hh1 : HwOk bs (stand1 c d s) { h with gr := some bg, rf := some br } := hh
  refine .callQ (v := .bool (Rs.maj c 1)) (maj_q (p := p) (c := c) (h := { h with gr := some bg, rf := some br }) (s := stand1 c d s) (x := xS d ms.length (fr s.log s.log) fl) (q := true) 1 (by omega)) ?_
  cases hj : Rs.maj c 1 with
  | true =>
    rw [if_pos rfl]
    refine run ?_
    refine .ent ((Picks.ent (a := [MB bg [s.id], MB br []]) picks).trans (Rp.c3 (c := c) (h := { h with gr := some bg, rf := some br }) (s := stand1 c d s) rfl rfl rfl)) ?_
    refine .ent ((Picks.ent (a := [Nb true p c { h with gr := some bg, rf := some br } (stand1 c d s) (xS d ms.length (fr s.log s.log) fl), PeersG c h, LgN h s, Rp c { h with gr := some bg, rf := some br } (stand1 c d s), MB bs (sk ms), Ms h.mA ms.length h.mc ms]) picks).trans
      (Nod.close (c := c) (s := stand1 c d s) { h with gr := some bg, rf := some br } hh1)) ?_
    refine .callD (lead_ok (s := stand1 c d s) (c := c) (p := p) (d := d) (fl := fl) (ms := ms) (bs := bs) hs1 (by omega) hr) ?_
    refine run ?_
    exact .retD Tryz.func137
  | false =>
    rw [if_neg (by simp)]
    have hsm := hs1.at hh1
    cases b
    case' false =>
      refine run ?_
      generalize hH : (if (false : Bool) = true then 1 else 0 : Nat) = hint
    case' true =>
      refine run ?_
      generalize hH : (if (true : Bool) = true then 1 else 0 : Nat) = hint
    all_goals
      refine RS.hit 4 rfl (by rw [← hH]; rfl : _ = nv hint) ?_
      refine .callE (others_ok (s := stand1 c d s) (x := xS d ms.length (fr s.log s.log) fl) (p := p) (c := c) (h := { h with gr := some bg, rf := some br }) peersG hn.2) ?_
      rintro v L ⟨A, c', rfl, rfl⟩
      refine run ?_
      refine W.loopH (ι := Nat × Option Addr × Nat) (fun i => i.1 ≤ (oth c s).length) (fun i => [(0, pt p), (4, nv hint), (53, .slice A (oth c s).length c'), (54, nv (oth c s).length), (55, nv i.1)])
        (fun i => [Gr 1 3 A (oth c s).length c' ((li (oth c s)).map iv), Nb true p c { h with gr := some bg, rf := some br, mA := i.2.1, mc := i.2.2 } (stand1 c d s) (xS d (ms.length + i.1) (fr s.log s.log) fl), PeersG c h, LgN h s, MB bg [s.id], MB br [], MB bs (sk ms), Ms i.2.1 (ms.length + i.1) i.2.2 (ms ++ ((oth c s).take i.1).map (voteM hint (stand1 c d s)))])
        (fun i => (oth c s).length - i.1) (0, h.mA, h.mc) (Nat.zero_le _) subs (by rw [List.take_zero, List.map_nil, List.append_nil]; exact Picks.sub picks) ?_
      rintro ⟨k, A1, c1⟩ hk ih
      dsimp only at hk ih ⊢
      by_cases hlt : k < (oth c s).length
      · obtain ⟨y, hy⟩ : ∃ y, (oth c s)[k]? = some y := ⟨_, List.getElem?_eq_getElem hlt⟩
        have hsm' := hsm.set (h' := { h with gr := some bg, rf := some br, mA := A1, mc := c1 }) rfl rfl
        refine W.fact (fun w h => IsA.of (k := k) (Reads.gr (sz := 1) (E := 3)) .hd (by simpa using hlt) h) fun hA => ?_
        refine run ?_
        refine .quiet rfl rfl rfl (R.load (v := nv y) rfl rfl rfl rfl .gr pick (by rw [Nat.mul_one]; simp [hy])) ?_
        refine run ?_
        refine .callQ (v := nv s.log.length) (end_q (s := stand1 c d s) hsm') ?_
        refine run ?_
        refine .callQ (v := nv s.log.length) (end_q (s := stand1 c d s) hsm') ?_
        refine .callQ (v := nv (s.tm s.log.length)) (term_q (s := stand1 c d s) hsm' (i := s.log.length) (by show s.snap ≤ _ ∧ _ ≤ s.log.length; omega)) ?_
        refine run ?_
        refine .ent (Ent.mk (X := Lg none 0 0 s.log.length []) fun r => Lg.nil) ?_
        refine .callE (send_ok (c := c) (h := { h with gr := some bg, rf := some br, mA := A1, mc := c1 }) (x := xS d (ms.length + k) (fr s.log s.log) fl) (ms := ms ++ ((oth c s).take k).map (voteM hint (stand1 c d s))) (s := stand1 c d s) (to := y) (m := { kind := 3, src := 0, dst := 0, term := 0, idx := s.log.length, lt := s.tm s.log.length, hint := hint }) (A := none) (cp := 0) (by show ms.length + k ≤ _; omega)) ?_
        rintro v M ⟨rfl, A', c', rfl⟩
        have e : ms ++ ((oth c s).take (k + 1)).map (voteM hint (stand1 c d s)) = ms ++ ((oth c s).take k).map (voteM hint (stand1 c d s)) ++ [sent (stand1 c d s) y { kind := 3, src := 0, dst := 0, term := 0, idx := s.log.length, lt := s.tm s.log.length, hint := hint }] := by
          rw [List.take_add_one, hy, List.map_append, List.append_assoc]; rfl
        have h2 := ih (k + 1, A', c') hlt (by dsimp only; omega)
        rw [e] at h2
        refine run ?_
        exact .back h2
      · have hk : k = (oth c s).length := by omega
        subst hk
        rw [List.take_length]
        refine run ?_
        have hL : (ms ++ (oth c s).map (voteM hint (stand1 c d s))).length = ms.length + (oth c s).length := by rw [List.length_append, List.length_map]
        rw [NodS.eq (s := stand1 c d s) (n := ms.length + (oth c s).length) (f := fr s.log s.log) hL rfl, ← sk_map (f := voteM hint (stand1 c d s)) (l := oth c s) (fun y => by show 3 ≠ 7; omega)]
        refine .ent ((Picks.ent (a := [MB bg [s.id], MB br []]) picks).trans (Rp.c3 (c := c) (h := { h with gr := some bg, rf := some br, mA := A1, mc := c1 }) (s := stand1 c d s) rfl rfl rfl)) ?_
        refine .ent ((Picks.ent (a := [Nb true p c { h with gr := some bg, rf := some br, mA := A1, mc := c1 } (stand1 c d s) (xS d (ms.length + (oth c s).length) (fr s.log s.log) fl), PeersG c h, LgN h s, Rp c { h with gr := some bg, rf := some br, mA := A1, mc := c1 } (stand1 c d s), _, _]) picks).trans
          (Nod.close (c := c) (s := stand1 c d s) { h with gr := some bg, rf := some br, mA := A1, mc := c1 } hh1)) ?_
        exact .doneD Tryz.func137
def begin1 (c : Cfg) (d : Int) (s : Nd) : Nd := { Rs.rest c d s with role := 2, leader := 0, heir := 0, gr := [s.id] }
def preM (s : Nd) (y : Nat) : Rf.Msg := { kind := 1, src := s.id, dst := y, term := s.term + 1, idx := s.fin, lt := s.tm s.fin }
theorem begin_eq : Rs.begin_ c d s = if Rs.stuck (Rs.rest c d s) then (Rs.rest c d s, []) else if Rs.maj c 1 then Rs.stand c d 0 (begin1 c d s) else (begin1 c d s, (oth c s).map (preM (begin1 c d s))) := rfl
theorem Sn.rest (hs : Sn c s) : Sn c (Rs.rest c d s) := hs.mk hs.id hs.term hs.fin hs.data ⟨by show 0 ≤ _; omega, hs.el.2⟩
theorem Sn.begin1 (hs : Sn c s) : Sn c (begin1 c d s) := hs.mk hs.id hs.term hs.fin hs.data ⟨by show 0 ≤ _; omega, hs.el.2⟩
theorem begin_ok (hs : Sn c s) (hm : ms.length ≤ 300) (hr : s.log.length < 65536) (ht : s.term < 1099511627776) (h4 : s.role ≠ 4) : Fn Tryz.prog 95 [pt p].toArray [NodS p c bs d s.log fl s ms]
    (Det (.tuple #[]) [NodS p c bs d s.log fl (Rs.begin_ c d s).1 (ms ++ (Rs.begin_ c d s).2)]) := by
  rw [begin_eq]
  have hf := hs.fin
  have hn := hs.n
  have hcf := hs.cf
  have hol := oth_len (c := c) (s := s) hn.2
  have hid := hs.id
  refine Fn.enter Tryz.func95 rfl (by kernel_rfl) rfl ?_
  refine .nod fun h hh => ?_
  refine run ?_
  refine .callD (rest_ok (c := c) (x := xS d ms.length (fr s.log s.log) fl) (h := h) (s := s) hcf) ?_
  refine run ?_
  refine .callQ (stuck_q (s := Rs.rest c d s) ((Sn.rest hs).set hh.1 hh.2.1)) ?_
  have hh0 : HwOk bs (Rs.rest c d s) h := hh
  cases hst : Rs.stuck (Rs.rest c d s) with
  | true =>
    rw [if_pos rfl]
    refine run ?_
    dsimp only
    rw [List.append_nil]
    refine .ent ((Picks.ent (a := [Rp c h s]) picks).trans (Rp.to (Rs.rest c d s) h)) ?_
    refine .ent ((Picks.ent (a := [Nb true p c h (Rs.rest c d s) (xS d ms.length (fr s.log s.log) fl), PeersG c h, LgN h s, Rp c h (Rs.rest c d s), MB bs (sk ms), Ms h.mA ms.length h.mc ms]) picks).trans
      (Nod.close (c := c) (s := Rs.rest c d s) h hh0)) ?_
    exact .retD Tryz.func95
  | false =>
    rw [if_neg (by simp)]
    refine run ?_
    refine .mkMap (k := 3) (kenc := nv) (venc := uv) fun bg => ?_
    refine run ?_
    refine .insB (l := []) s.id (by unfold okN; omega) ?_
    refine run ?_
    have hs1 : Sn c (begin1 c d s) := hs.begin1
    have hh1 : HwOk bs (begin1 c d s) { h with gr := some bg } := hh
    refine .callQ (v := .bool (Rs.maj c 1)) (maj_q (p := p) (c := c) (h := { h with gr := some bg }) (s := begin1 c d s) (x := xS d ms.length (fr s.log s.log) fl) (q := true) 1 (by omega)) ?_
    cases hj : Rs.maj c 1 with
    | true =>
      rw [if_pos rfl]
      refine run ?_
      refine .ent ((Picks.ent (a := [MB bg [s.id]]) picks).trans (Rp.c2 (c := c) (h := { h with gr := some bg }) (s := begin1 c d s) rfl rfl)) ?_
      refine .ent ((Picks.ent (a := [Nb true p c { h with gr := some bg } (begin1 c d s) (xS d ms.length (fr s.log s.log) fl), PeersG c h, LgN h s, Rp c { h with gr := some bg } (begin1 c d s), MB bs (sk ms), Ms h.mA ms.length h.mc ms]) picks).trans
        (Nod.close (c := c) (s := begin1 c d s) { h with gr := some bg } hh1)) ?_
      refine .callD (stand_ok (b := false) (s := begin1 c d s) (c := c) (p := p) (d := d) (fl := fl) (ms := ms) (bs := bs) hs1 (by omega) hr ht) ?_
      refine run ?_
      exact .retD Tryz.func95
    | false =>
      rw [if_neg (by simp)]
      have hsm := hs1.at hh1
      refine run ?_
      refine .callE (others_ok (s := begin1 c d s) (x := xS d ms.length (fr s.log s.log) fl) (p := p) (c := c) (h := { h with gr := some bg }) peersG hn.2) ?_
      rintro v L ⟨A, c', rfl, rfl⟩
      refine run ?_
      refine W.loopH (ι := Nat × Option Addr × Nat) (fun i => i.1 ≤ (oth c s).length) (fun i => [(0, pt p), (32, .slice A (oth c s).length c'), (33, nv (oth c s).length), (34, nv i.1)])
        (fun i => [Gr 1 3 A (oth c s).length c' ((li (oth c s)).map iv), Nb true p c { h with gr := some bg, mA := i.2.1, mc := i.2.2 } (begin1 c d s) (xS d (ms.length + i.1) (fr s.log s.log) fl), PeersG c h, LgN h s, MB bg [s.id], MB bs (sk ms), Ms i.2.1 (ms.length + i.1) i.2.2 (ms ++ ((oth c s).take i.1).map (preM (begin1 c d s)))])
        (fun i => (oth c s).length - i.1) (0, h.mA, h.mc) (Nat.zero_le _) subs (by rw [List.take_zero, List.map_nil, List.append_nil]; exact Picks.sub picks) ?_
      rintro ⟨k, A1, c1⟩ hk ih
      dsimp only at hk ih ⊢
      by_cases hlt : k < (oth c s).length
      · obtain ⟨y, hy⟩ : ∃ y, (oth c s)[k]? = some y := ⟨_, List.getElem?_eq_getElem hlt⟩
        have hsm' := hsm.set (h' := { h with gr := some bg, mA := A1, mc := c1 }) rfl rfl
        refine W.fact (fun w h => IsA.of (k := k) (Reads.gr (sz := 1) (E := 3)) .hd (by simpa using hlt) h) fun hA => ?_
        refine run ?_
        refine .quiet rfl rfl rfl (R.load (v := nv y) rfl rfl rfl rfl .gr pick (by rw [Nat.mul_one]; simp [hy])) ?_
        refine run ?_
        have ht' : (begin1 c d s).term < 1099511627776 := ht
        refine W.plan [9, 12, 13] mixed (by rfl) (by kernel_rfl) ?_
        refine run ?_
        refine .callQ (v := nv s.log.length) (end_q (s := begin1 c d s) hsm') ?_
        refine run ?_
        refine .callQ (v := nv s.log.length) (end_q (s := begin1 c d s) hsm') ?_
        refine run ?_
        refine .callQ (v := nv (s.tm s.log.length)) (term_q (s := begin1 c d s) hsm' (i := s.log.length) (by show s.snap ≤ _ ∧ _ ≤ s.log.length; omega)) ?_
        refine run ?_
        refine .ent (Ent.mk (X := Lg none 0 0 s.log.length []) fun r => Lg.nil) ?_
        refine .callE (send_ok (c := c) (h := { h with gr := some bg, mA := A1, mc := c1 }) (x := xS d (ms.length + k) (fr s.log s.log) fl) (ms := ms ++ ((oth c s).take k).map (preM (begin1 c d s))) (s := begin1 c d s) (to := y) (m := { kind := 1, src := 0, dst := 0, term := s.term + 1, idx := s.log.length, lt := s.tm s.log.length }) (A := none) (cp := 0) (by show ms.length + k ≤ _; omega)) ?_
        rintro v M ⟨rfl, A', c', rfl⟩
        have e : ms ++ ((oth c s).take (k + 1)).map (preM (begin1 c d s)) = ms ++ ((oth c s).take k).map (preM (begin1 c d s)) ++ [sent (begin1 c d s) y { kind := 1, src := 0, dst := 0, term := s.term + 1, idx := s.log.length, lt := s.tm s.log.length }] := by
          rw [List.take_add_one, hy, List.map_append, List.append_assoc]; rfl
        have h2 := ih (k + 1, A', c') hlt (by dsimp only; omega)
        rw [e] at h2
        refine run ?_
        exact .back h2
      · have hk : k = (oth c s).length := by omega
        subst hk
        rw [List.take_length]
        refine run ?_
        have hL : (ms ++ (oth c s).map (preM (begin1 c d s))).length = ms.length + (oth c s).length := by rw [List.length_append, List.length_map]
        rw [NodS.eq (s := begin1 c d s) (n := ms.length + (oth c s).length) (f := fr s.log s.log) hL rfl, ← sk_map (f := preM (begin1 c d s)) (l := oth c s) (fun y => by show 1 ≠ 7; omega)]
        refine .ent ((Picks.ent (a := [MB bg [s.id]]) picks).trans (Rp.c2 (c := c) (h := { h with gr := some bg, mA := A1, mc := c1 }) (s := begin1 c d s) rfl rfl)) ?_
        refine .ent ((Picks.ent (a := [Nb true p c { h with gr := some bg, mA := A1, mc := c1 } (begin1 c d s) (xS d (ms.length + (oth c s).length) (fr s.log s.log) fl), PeersG c h, LgN h s, Rp c { h with gr := some bg, mA := A1, mc := c1 } (begin1 c d s), _, _]) picks).trans
          (Nod.close (c := c) (s := begin1 c d s) { h with gr := some bg, mA := A1, mc := c1 } hh1)) ?_
        exact .doneD Tryz.func95
end
end Go.SL
