/-
  A part of the proof of what E53 says at its head.
-/
import Derived.DeepKeys3
import Derived.Test.YtocogcgnahbpkaaGreatE36
namespace Go.SL
open Go.Proofs Go.Proofs.YtocogcgnahbpkaaGreat
open Rs (Nd)
set_option maxRecDepth 10000
attribute [local irreducible] W RS RG RT RD Fn FnQ OpS QOp Own Sat Rd Gr Mp Rg Lg Ms Es Nod Rp NodI RLg RMs REs RN RLd RNF EsD MsD NBk BkP BkRd BothI
section
variable {c : Cfg} {s s' : Nd} {b : Nat}
theorem asked_n (hs : Sn c s) : Fn Tryz.prog 20 [pt b].toArray [BothI b c s] (Det (.bool true) [BothI b c s]) := by
  have hf := hs.fin
  have hn := hs.n
  have hol := oth_len (c := c) (s := s) hn.2
  have hpl : (progL c s).length ≤ 5 := by unfold progL; split <;> simp_all
  have hld : (s.log.drop s.snap).length ≤ 1000000 := by rw [List.length_drop]; omega
  have hdd : ∀ x ∈ s.log.drop s.snap, x.data.length ≤ 140737488351232 := fun x hx => hs.data x (List.mem_of_mem_drop hx)
  refine Fn.enter Tryz.func20 rfl (by kernel_rfl) rfl ?_
  refine .bothI fun pp h x hh => ?_
  refine .nbk fun LA ln lc MA mc bl hbl hbll hblb => ?_
  refine run ?_
  refine .callE (state_n (p := pp) hs) ?_
  rintro v L ⟨A, cp, rfl, rfl⟩
  refine run ?_
  refine .new fun z3 => ?_
  refine run ?_
  refine W.planT [Blk true z3 (stV s A cp) 90] [2000, 5] mixed (by rfl) (by kernel_rfl) ?_ picks
  refine run ?_
  refine .callE (rstate_n (b := b) (pp := pp) (x := x) (LA := LA) (ln := ln) (lc := lc) (MA := MA) (mn := ln) (mc := mc) hs hh) ?_
  rintro v L ⟨B, cq, rfl, rfl⟩
  refine .callQ ((sameState_d (A := A) (B := B) (cp := cp) (cq := cq) hs).pre (M := [Lg A (s.log.length - s.snap) cp s.snap (s.log.drop s.snap), Lg B (s.log.length - s.snap) cq s.snap (s.log.drop s.snap)]) ((Ent.of fun _ h => h.lend).trans (.cons _ (.of fun _ h => h.lend)))) ?_
  refine run ?_
  refine .ent ((Picks.ent (a := [Blk true b (ncells pp c h s x LA ln lc MA ln mc) 97, Gr 1 65 LA ln lc (bl.map bkV), Gr 1 5 MA ln mc (bl.map bkM), BkRd bl]) picks).trans (NBk.shut hbl hbll hblb)) ?_
  refine W.plan [] mixed (by rfl) (by kernel_rfl) ?_
  refine run ?_
  have hTL := takeLog_ok (A := A) (cp := cp) (b := b) (pp := pp) (c := c) (h := h) (s := s) (x := x) (i := s.snap) hld hdd
  rw [List.length_drop] at hTL
  refine .callD hTL ?_
  refine runR ?_
  clear hblb hbll hbl bl mc MA lc ln LA
  refine .first (NBk b pp c h s x) ?_
  refine .nbk fun LA ln lc MA mc bl hbl hbll hblb => ?_
  refine run ?_
  refine .callE (progress_n (p := pp) hs) ?_
  rintro v L ⟨PA, pcp, rfl, rfl⟩
  refine run ?_
  refine .callE (rprogress_n (b := b) (pp := pp) (s := s) (h := h) (x := x) (LA := LA) (ln := ln) (lc := lc) (MA := MA) (mn := ln) (mc := mc) hn) ?_
  rintro v L ⟨QA, qcp, rfl, rfl⟩
  refine run ?_
  refine .callQ ((sameProgress_d (A := PA) (B := QA) (cp := pcp) (cq := qcp) (l := progL c s) (s := s) (by omega)).pre (M := [Gr 3 104 PA (progL c s).length pcp ((progL c s).flatMap (progE s)), Gr 3 104 QA (progL c s).length qcp ((progL c s).flatMap (progE s))]) ((Ent.of Reads.gr).trans (.cons _ (.of Reads.gr)))) ?_
  refine run ?_
  refine .ent ((Picks.ent (a := [Gr 3 104 PA (progL c s).length pcp ((progL c s).flatMap (progE s))]) picks).trans (Ent.of (Y := GrX 3 104 PA (progL c s).length pcp) fun r h => h.x)) ?_
  refine W.loopH (ι := Nat) (fun i => i ≤ (progL c s).length) (fun i => [(0, pt b), (4, .bool true), (5, .slice PA (progL c s).length pcp), (6, nv i)])
    (fun i => [GrX 3 104 PA (progL c s).length pcp, Blk true b (ncells pp c h s x LA ln lc MA ln mc) 97, Gr 1 65 LA ln lc (bl.map bkV), Gr 1 5 MA ln mc (bl.map bkM), BkRd bl, NodI pp c s, RLdN h s, OthR c h s, GraR h s, RefR h s]) (fun i => (progL c s).length - i) 0 (Nat.zero_le _) subs (Picks.sub picks) ?_
  intro i hi ih
  by_cases hil : i < (progL c s).length
  · unfold GrX
    refine .ex fun cs => ?_
    refine W.fact (fun w h => Gr.len h) fun hcl => ?_
    refine W.fact (fun w h => IsA.of (k := i * 3) (Reads.gr (sz := 3) (E := 104)) .hd (by omega) h) fun hA => ?_
    refine run ?_
    refine .quiet rfl rfl rfl (Q.buildArr rfl rfl rfl rfl rfl) ?_
    refine run ?_
    refine .det0 rfl rfl (O.storeRowE (j := i) rfl rfl rfl rfl rfl rfl (by decide) pick (by show i * 3 + 3 ≤ _; omega) rfl) ?_
    refine run ?_
    refine .ent (Ent.of (Y := GrX 3 104 PA (progL c s).length pcp) fun r h => h.x) ?_
    exact .back (ih (i + 1) (by omega) (by omega))
  · clear ih
    refine run ?_
    refine W.plan [11, 23] mixed (by rfl) (by kernel_rfl) ?_
    refine run ?_
    refine .callE (state_n (p := pp) hs) ?_
    rintro v L ⟨A2, cp2, rfl, rfl⟩
    refine run ?_
    refine .callE (rstate_n (b := b) (pp := pp) (x := x) (LA := LA) (ln := ln) (lc := lc) (MA := MA) (mn := ln) (mc := mc) hs hh) ?_
    rintro v L ⟨B2, cq2, rfl, rfl⟩
    refine .callQ ((sameState_d (A := A2) (B := B2) (cp := cp2) (cq := cq2) hs).pre (M := [Lg A2 (s.log.length - s.snap) cp2 s.snap (s.log.drop s.snap), Lg B2 (s.log.length - s.snap) cq2 s.snap (s.log.drop s.snap)]) ((Ent.of fun _ h => h.lend).trans (.cons _ (.of fun _ h => h.lend)))) ?_
    refine run ?_
    refine .callE (progress_n (p := pp) hs) ?_
    rintro v L ⟨PA2, pcp2, rfl, rfl⟩
    refine run ?_
    refine .callE (rprogress_n (b := b) (pp := pp) (s := s) (h := h) (x := x) (LA := LA) (ln := ln) (lc := lc) (MA := MA) (mn := ln) (mc := mc) hn) ?_
    rintro v L ⟨QA2, qcp2, rfl, rfl⟩
    refine .callQ ((sameProgress_d (A := PA2) (B := QA2) (cp := pcp2) (cq := qcp2) (l := progL c s) (s := s) (by omega)).pre (M := [Gr 3 104 PA2 (progL c s).length pcp2 ((progL c s).flatMap (progE s)), Gr 3 104 QA2 (progL c s).length qcp2 ((progL c s).flatMap (progE s))]) ((Ent.of Reads.gr).trans (.cons _ (.of Reads.gr)))) ?_
    refine run ?_
    refine .ent ((Picks.ent (a := [Blk true b (ncells pp c h s x LA ln lc MA ln mc) 97, Gr 1 65 LA ln lc (bl.map bkV), Gr 1 5 MA ln mc (bl.map bkM), BkRd bl]) picks).trans (NBk.shut hbl hbll hblb)) ?_
    refine .callD (holds_ok (b := b) (pp := pp) (c := c) (h := h) (s := s) (x := x)) ?_
    refine run ?_
    refine .ent ((Picks.ent (a := [NBk b pp c h s x, NodI pp c s, RLdN h s, OthR c h s, GraR h s, RefR h s]) picks).trans (BothI.shut hh)) ?_
    exact .retD Tryz.func20
end
end Go.SL
namespace Go.SL
open Go.Proofs Go.Proofs.YtocogcgnahbpkaaGreat
open Rs (Nd)
set_option maxRecDepth 10000
theorem BkRd.nil {r : Res} : BkRd [] r := fun _ h => nomatch h
attribute [local irreducible] W RS RG RT RD Fn FnQ OpS QOp Own Sat Rd Gr Mp Rg Lg Ms Es Nod Rp NodI RLg RMs REs RN RLd RNF EsD MsD NBk BkP BkRd BothI
section
variable {c : Cfg} {s s' : Nd} {b : Nat} {X Y D : HP} {d : Int} {A : Option Addr} {cp : Nat}
theorem begun_n {pA : Option Addr} {pc : Nat} {mes : List LE} (hc : CfgOk c) (hs : Sn c s) (hst : StOk c s) (hf : Fresh s) (hb : Blank s) (hX : Reads X pA (peersL c)) (hY : Reads Y A (mes.flatMap encLE)) (hD : DRead D mes) (hmes : mes.map (·.e) = ents s.snap (s.log.drop s.snap)) (hd : ∀ x ∈ mes, x.e.data.length ≤ 140737488351232) :
    Fn Tryz.prog 44 [.agg (cfgV c s.id pA pc).toArray, .agg (stV s A cp).toArray, iv d].toArray [X, Y, D]
    (fun v L => ∃ b, v = .tuple #[pt b, .bool true] ∧ L = [BothI b c (Rs.rest c d s), X, Y, D]) := by
  have hmn := les_len hmes
  rw [List.length_drop] at hmn
  have hsf := hs.fin
  have hn := hc.n
  have hWL := wideLog_ok (cp := cp) hY hD (by omega) hd
  rw [hmn] at hWL
  refine Fn.enter Tryz.func44 rfl (by kernel_rfl) rfl ?_
  refine run ?_
  refine .box fun z3 => ?_
  refine .box fun z4 => ?_
  refine run ?_
  refine .new fun z8 => ?_
  refine run ?_
  refine .callE hWL ?_
  rintro v L ⟨ws, M, cM, WA, wc, hw, rfl, rfl⟩
  rw [hmn]
  refine run ?_
  refine .any rfl rfl rfl (OpN.op <| N.buildSlice0 rfl rfl rfl rfl) fun v L ⟨za, h1, h2⟩ => ?_
  subst h1; subst h2
  refine run ?_
  refine .ent (Picks.ent (a := [X]) picks) ?_
  refine .push (sz := 1) (nn := 0) (m := c.n) (Src.pick (cs := peersL c) rfl rfl .hd hX (by rw [peers_len]; omega) rfl (allIv _)) fun A2 c2 => ?_
  simp only [Nat.zero_add, List.nil_append]
  refine run ?_
  refine .lit fun zb => ?_
  refine .push (sz := 1) (m := 1) (Src.pick (cs := [iv (-77)]) rfl rfl .hd .own rfl rfl rfl) fun A3 c3 => ?_
  refine run ?_
  refine .new fun z12 => ?_
  refine run ?_
  refine .fact (fun w h => Gr.cap (h.ent (Picks.ent (a := [Gr 1 3 A3 (c.n + 1) c3 (peersL c ++ [iv (-77)])]) picks))) fun hcapP => ?_
  refine .fact (fun w h => Gr.cap (h.ent (Picks.ent (a := [Gr 3 67 M (s.log.length - s.snap + 1) cM (ws.flatMap encLE ++ [iv (-77), iv 0, .slice none 0 0])]) picks))) fun hcapM => ?_
  refine .quiet rfl rfl rfl (Q.sliceTo (hi := c.n) rfl rfl rfl rfl rfl rfl (by omega)) ?_
  refine run ?_
  have hwn : ws.length = s.log.length - s.snap := by have := congrArg List.length hw; simpa [hmn] using this
  have hDP : DRead (Sl Wb (ws.map toB)) ws := fun r hr y hy => Sl.reads (y := toB y) (List.mem_map_of_mem hy) Wb.reads r hr
  have hP0 : Reads (Gr 1 3 A3 (c.n + 1) c3 (peersL c ++ [iv (-77)])) A3 (peersL c ++ [iv (-77)]) := .gr
  have hM0 : Reads (Gr 3 67 M (s.log.length - s.snap + 1) cM (ws.flatMap encLE ++ [iv (-77), iv 0, .slice none 0 0])) M (ws.flatMap encLE ++ [iv (-77), iv 0, .slice none 0 0]) := .gr
  refine .callE (new_n (X := Gr 1 3 A3 (c.n + 1) c3 (peersL c ++ [iv (-77)])) (Y := Gr 3 67 M (s.log.length - s.snap + 1) cM (ws.flatMap encLE ++ [iv (-77), iv 0, .slice none 0 0])) (D := Sl Wb (ws.map toB)) (A := M) (cp := cM) (pA := A3) (pc := c3) (mes := ws) (d := d) hc hs hst hf hP0.front hM0.front hDP (by rw [hw]; exact hmes)) ?_
  rintro v L ⟨pp, rfl, rfl⟩
  refine run ?_
  refine .callE (rnew_n (X := X) (Y := Y) (D := D) (A := A) (cp := cp) (pA := pA) (pc := pc) (mes := mes) (d := d) hc hs hst hf hb hX hY hD hmes) ?_
  rintro v L ⟨h, hh, rfl, rfl⟩
  refine run ?_
  refine .new fun z15 => ?_
  refine run ?_
  have hSL := sameLog_t (X := Gr 3 67 M (s.log.length - s.snap + 1) cM (ws.flatMap encLE ++ [iv (-77), iv 0, .slice none 0 0])) (D := Sl Wb (ws.map toB)) (Y := Y) (E := D) (A := M) (B := A) (c := cM) (c' := cp) (l := ws) (l' := mes) hM0.front hDP hY hD (by omega) hw
  rw [hwn, hmn] at hSL
  refine .callQ hSL ?_
  clear hSL
  refine .fact (fun w h => IsA.of (k := (s.log.length - s.snap) * 3) hM0 (by exact pick) (by rw [List.length_append, flat_len lenLE, hwn]; simp) h) fun hAM => ?_
  refine .fact (fun w h => IsA.of (k := c.n) hP0 (by exact pick) (by rw [List.length_append, peers_len]; simp) h) fun hAP => ?_
  refine run ?_
  refine .hit 65 rfl (rfl : _ = nv (s.log.length - s.snap + 1)) ?_
  refine .quiet rfl rfl rfl (Q.sliceTo (hi := s.log.length - s.snap + 1) rfl rfl rfl rfl rfl rfl (by omega)) ?_
  refine run ?_
  refine .quiet rfl rfl rfl (R.load (v := iv (-77)) rfl rfl rfl rfl hM0 pick (by
    show (ws.flatMap encLE ++ _)[(s.log.length - s.snap) * 3 + 0]? = _
    rw [List.getElem?_append_right (by rw [flat_len lenLE, hwn]; omega), flat_len lenLE, hwn, Nat.add_zero, Nat.sub_self]; rfl)) ?_
  refine run ?_
  refine .quiet rfl rfl rfl (R.load (v := iv (-77)) rfl rfl rfl rfl hP0 pick (by
    show (peersL c ++ _)[c.n * 1]? = _
    rw [Nat.mul_one, List.getElem?_append_right (by rw [peers_len]; omega), peers_len, Nat.sub_self]; rfl)) ?_
  refine run ?_
  refine W.loopH (ι := Nat) (fun i => i ≤ c.n) (fun i => [(3, pt z3), (4, pt z4), (9, .slice M (s.log.length - s.snap) cM), (10, .slice WA (s.log.length - s.snap) wc), (11, .slice A3 (c.n + 1) c3), (13, pt pp), (14, iv 0), (15, pt z15), (16, iv 0), (17, .bool true), (18, nv i)])
    (fun i => [Blk true z15 (rcells c h (Rs.rest c d s) ⟨0, 0, 0, 0, 0⟩) 93, RLdN h (Rs.rest c d s), OthR c h (Rs.rest c d s), GraR h (Rs.rest c d s), RefR h (Rs.rest c d s), X, Y, D, NodI pp c (Rs.rest c d s), Gr 1 3 A3 (c.n + 1) c3 (peersL c ++ [iv (-77)]), Gr 3 67 M (s.log.length - s.snap + 1) cM (ws.flatMap encLE ++ [iv (-77), iv 0, .slice none 0 0]), Sl Wb (ws.map toB),
      Gr 1 65 WA (s.log.length - s.snap) wc ((ws.map toB).map vW), Blk true z4 (stV s A cp) 90, Blk true z3 (cfgV c s.id pA pc) 27]) (fun i => c.n - i) 0 (Nat.zero_le _) subs (Picks.sub picks) ?_
  intro i hi ih
  by_cases hil : i < c.n
  · refine W.fact (fun w h => IsA.of (k := i) hX (by exact pick) (by rw [peers_len]; exact hil) h) fun hAX => ?_
    refine run ?_
    refine W.plan [] mixed (by rfl) (by kernel_rfl) ?_
    refine run ?_
    refine RG.take rfl rfl rfl rfl (R.load (v := nv (i + 1)) rfl rfl rfl rfl hP0 pick (by
      show (peersL c ++ _)[i * 1]? = _
      rw [Nat.mul_one, List.getElem?_append_left (by rw [peers_len]; exact hil)]; exact peers_at hil)) ?_ rfl
    refine run ?_
    refine RG.take rfl rfl rfl rfl (R.load (v := nv (i + 1)) rfl rfl rfl rfl hX pick (by rw [Nat.mul_one]; exact peers_at hil)) ?_ rfl
    refine run ?_
    exact .back (ih (i + 1) (by omega) (by omega))
  · clear ih
    refine run ?_
    have hDt := datas_ok (cp := cp) hY (by omega : mes.length ≤ 1000000)
    rw [hmn] at hDt
    refine .callE hDt ?_
    rintro v L ⟨UA, uc, rfl, rfl⟩
    have hOv := over_ok (X := Gr 1 65 UA (s.log.length - s.snap) uc ((mes.map toB).map vB)) (D := D) (wl := ws.map toB) (ul := mes.map toB) (WA := WA) (UA := UA) (wc := wc) (uc := uc)
      (by simp only [List.map_map]; rw [show (fun x : LB => x.data) ∘ toB = (fun x : EM => x.data) ∘ (fun x : LE => x.e) from rfl, ← List.map_map, hw, List.map_map])
      .gr (fun r hr y hy => by
        obtain ⟨u, hu, rfl⟩ := List.mem_map.1 hy
        exact hD r hr u hu) (by simp only [List.length_map]; omega) (fun y hy => by
        obtain ⟨u, hu, rfl⟩ := List.mem_map.1 hy
        have : u.e ∈ mes.map (·.e) := by rw [← hw]; exact List.mem_map_of_mem hu
        obtain ⟨v, hv, hvu⟩ := List.mem_map.1 this
        show u.e.data.length ≤ _; rw [← hvu]; exact hd v hv)
    simp only [List.length_map, hwn, hmn] at hOv
    refine .callD hOv ?_
    refine run ?_
    refine .ent ((Picks.ent (a := [Gr 1 3 A3 (c.n + 1) c3 (peersL c ++ [iv (-77)])]) picks).trans (Ent.of (Y := GrX 1 3 A3 (c.n + 1) c3) fun r h => h.x)) ?_
    refine W.loopH (ι := Nat) (fun i => i ≤ c.n + 1) (fun i => [(9, .slice M (s.log.length - s.snap) cM), (11, .slice A3 (c.n + 1) c3), (13, pt pp), (14, iv 0), (15, pt z15), (16, iv 0), (17, .bool true), (19, nv i)])
      (fun i => [GrX 1 3 A3 (c.n + 1) c3, Blk true z15 (rcells c h (Rs.rest c d s) ⟨0, 0, 0, 0, 0⟩) 93, RLdN h (Rs.rest c d s), OthR c h (Rs.rest c d s), GraR h (Rs.rest c d s), RefR h (Rs.rest c d s), X, Y, D, NodI pp c (Rs.rest c d s), Gr 3 67 M (s.log.length - s.snap + 1) cM (ws.flatMap encLE ++ [iv (-77), iv 0, .slice none 0 0])]) (fun i => c.n + 1 - i) 0 (Nat.zero_le _) subs (Picks.sub picks) ?_
    intro i hi ih
    by_cases hil : i < c.n + 1
    · unfold GrX
      refine .ex fun cs => ?_
      refine W.fact (fun w h => Gr.len h) fun hcl => ?_
      refine run ?_
      refine .det0 rfl rfl (O.storeRow rfl rfl rfl rfl rfl rfl pick (by rw [hcl]; exact Nat.mul_lt_mul_of_pos_right hil (by decide))) ?_
      refine run ?_
      refine .ent (Ent.of (Y := GrX 1 3 A3 (c.n + 1) c3) fun r h => h.x) ?_
      exact .back (ih (i + 1) (by omega) (by omega))
    · clear ih
      refine run ?_
      refine .ent ((Picks.ent (a := [Gr 3 67 M (s.log.length - s.snap + 1) cM (ws.flatMap encLE ++ [iv (-77), iv 0, .slice none 0 0])]) picks).trans (Ent.of (Y := GrX 3 67 M (s.log.length - s.snap + 1) cM) fun r h => h.x)) ?_
      refine W.loopH (ι := Nat) (fun i => i ≤ s.log.length - s.snap) (fun i => [(9, .slice M (s.log.length - s.snap) cM), (13, pt pp), (14, iv 0), (15, pt z15), (16, iv 0), (17, .bool true), (20, nv i)])
        (fun i => [GrX 3 67 M (s.log.length - s.snap + 1) cM, Blk true z15 (rcells c h (Rs.rest c d s) ⟨0, 0, 0, 0, 0⟩) 93, RLdN h (Rs.rest c d s), OthR c h (Rs.rest c d s), GraR h (Rs.rest c d s), RefR h (Rs.rest c d s), X, Y, D, NodI pp c (Rs.rest c d s)]) (fun i => s.log.length - s.snap - i) 0 (Nat.zero_le _) subs (Picks.sub picks) ?_
      intro i hi ih
      by_cases hil : i < s.log.length - s.snap
      · unfold GrX
        refine .ex fun cs => ?_
        refine W.fact (fun w h => Gr.len h) fun hcl => ?_
        refine run ?_
        refine .det0 rfl rfl (O.storeRowE (j := i) rfl rfl rfl rfl rfl rfl (by decide) pick (by show i * 3 + 3 ≤ _; omega) rfl) ?_
        refine run ?_
        refine .ent (Ent.of (Y := GrX 3 67 M (s.log.length - s.snap + 1) cM) fun r h => h.x) ?_
        exact .back (ih (i + 1) (by omega) (by omega))
      · clear ih
        refine run ?_
        refine .callQ (num_q (v := 0)) ?_
        refine run ?_
        refine .quiet rfl rfl rfl (Q.eqNilP rfl rfl rfl rfl rfl) ?_
        refine RS.hit 136 rfl (rfl : _ = Value.bool false) ?_
        refine run ?_
        refine .quiet rfl rfl rfl (Q.neqB rfl rfl rfl Tryz.underlying4) ?_
        refine RS.hit 139 rfl (rfl : _ = Value.bool false) ?_
        refine run ?_
        refine .box fun b => ?_
        refine run ?_
        refine .ent ((Ent.mk (X := Gr 1 65 none 0 0 (([] : List BkL).map bkV)) fun r => .nil).trans ((Ent.mk (X := Gr 1 5 none 0 0 (([] : List BkL).map bkM)) fun r => .nil).trans (Ent.mk (X := BkRd []) fun r => BkRd.nil))) ?_
        refine .ent ((Picks.ent (a := [Blk true b (ncells pp c h (Rs.rest c d s) ⟨0, 0, 0, 0, 0⟩ none 0 0 none 0 0) 97, Gr 1 65 none 0 0 (([] : List BkL).map bkV), Gr 1 5 none 0 0 (([] : List BkL).map bkM), BkRd []]) picks).trans (NBk.shut (by omega) rfl (fun y hy => nomatch hy))) ?_
        refine .ent ((Picks.ent (a := [NBk b pp c h (Rs.rest c d s) ⟨0, 0, 0, 0, 0⟩, NodI pp c (Rs.rest c d s), RLdN h (Rs.rest c d s), OthR c h (Rs.rest c d s), GraR h (Rs.rest c d s), RefR h (Rs.rest c d s)]) picks).trans (BothI.shut hh)) ?_
        exact .retE Tryz.func44 ⟨b, rfl, rfl⟩
end
end Go.SL
namespace Go.SL
open Go.Proofs Go.Proofs.YtocogcgnahbpkaaGreat
open Rs (Nd)
set_option maxRecDepth 10000
section
variable {α β : Type} [DecidableEq α]
theorem kget_kput (l : List (α × β)) (x y : α) (v : β) : kget (kput l x v) y = if y = x then some v else kget l y := by
  unfold kget kput
  split
  · rename_i hm
    induction l with
    | nil => simp at hm
    | cons p l ih =>
      obtain ⟨k, u⟩ := p
      simp only [List.map_cons, List.mem_cons] at hm
      by_cases hk : k = x
      · subst hk
        by_cases hy : y = k
        · subst hy; simp
        · rw [if_neg hy]
          simp only [List.map_cons, if_true, List.find?_cons]
          rw [show decide (k = y) = false by simpa using Ne.symm hy]
          simp only
          clear ih hm
          induction l with
          | nil => rfl
          | cons q l ih2 =>
            simp only [List.map_cons, List.find?_cons]
            by_cases hq : q.1 = k
            · rw [if_pos hq, show decide (k = y) = false by simpa using Ne.symm hy, show decide (q.1 = y) = false by rw [hq]; simpa using Ne.symm hy]; exact ih2
            · rw [if_neg hq]
              by_cases hqy : q.1 = y
              · simp [hqy]
              · simp only [hqy, decide_false]; exact ih2
      · have hm' : x ∈ l.map (·.1) := hm.resolve_left (fun h => hk h.symm)
        have := ih hm'
        simp only [List.map_cons, if_neg hk, List.find?_cons]
        by_cases hky : k = y
        · subst hky; simp [hk]
        · simp only [hky, decide_false]; exact this
  · rename_i hm
    rw [List.find?_append]
    by_cases hy : y = x
    · subst hy
      rw [if_pos rfl]
      have : l.find? (fun p => p.1 = y) = none := by
        rw [List.find?_eq_none]; intro p hp hpe
        exact hm (List.mem_map.2 ⟨p, hp, by simpa using hpe⟩)
      rw [this]; simp
    · rw [if_neg hy]
      cases l.find? (fun p => p.1 = y) with
      | some p => rfl
      | none => simp [Ne.symm hy]
theorem kget_mem {l : List (α × β)} {x : α} {v : β} (h : kget l x = some v) : (x, v) ∈ l := by
  unfold kget at h
  rw [Option.map_eq_some_iff] at h
  obtain ⟨p, h1, h2⟩ := h
  have h3 := List.find?_some h1
  have h4 := List.mem_of_find?_eq_some h1
  obtain ⟨a, b⟩ := p
  simp only [decide_eq_true_eq] at h3
  subst h3; subst h2; exact h4
theorem kput_mem {l : List (α × β)} {x : α} {v : β} {p : α × β} (h : p ∈ kput l x v) : p = (x, v) ∨ p ∈ l := by
  unfold kput at h
  split at h
  · obtain ⟨q, hq, rfl⟩ := List.mem_map.1 h
    by_cases hx : q.1 = x
    · rw [if_pos hx]; exact .inl rfl
    · rw [if_neg hx]; exact .inr hq
  · rcases List.mem_append.1 h with h | h
    · exact .inr h
    · exact .inl (List.mem_singleton.1 h)
end
theorem Q.lookOk {P : Program} [Tab P] {n : Nat} {E : Env} {S S' : List HP} {o : Oper} {x y : Operand} {k t ev' b : Nat} {α β : Type} [DecidableEq α] {kenc : α → Value} {venc : β → Value} {ok : α → Prop} {l : List (α × β)} {r : Row} (K : KeyEnc P k kenc ok) {i : α} {zv : Value} (ho : o.op = .lookup t x y true) (ht : ty P t = some r) (hd : r.d = .map k ev') (hz : ∀ w, (zeroValue ev').run P w = .ok zv w) (hx : ev E x = some (.map (some b))) (hy : ev E y = some (kenc i)) (hi : ok i)
    (hp : Pick (Mp P k kenc venc b l) S S') : QOp P n E S o (match kget l i with | some v => .tuple #[venc v, .bool true] | none => .tuple #[zv, .bool false]) := .val fun w a h1 h2 => by
  unfold execOp; rw [ho]
  have := (h2.ent hp.ent).mp.look_ok K (ty_map ht hd) i hi zv hz
  simp [h1.eval hx, h1.eval hy, this]
  cases kget l i <;> rfl
theorem Q.lookSome {P : Program} [Tab P] {n : Nat} {E : Env} {S S' : List HP} {o : Oper} {x y : Operand} {k t ev' b : Nat} {α β : Type} [DecidableEq α] {kenc : α → Value} {venc : β → Value} {ok : α → Prop} {l : List (α × β)} {r : Row} (K : KeyEnc P k kenc ok) {i : α} {zv : Value} {v : β} (hv : kget l i = some v) (ho : o.op = .lookup t x y true) (ht : ty P t = some r) (hd : r.d = .map k ev') (hz : ∀ w, (zeroValue ev').run P w = .ok zv w) (hx : ev E x = some (.map (some b))) (hy : ev E y = some (kenc i)) (hi : ok i)
    (hp : Pick (Mp P k kenc venc b l) S S') : QOp P n E S o (.tuple #[venc v, .bool true]) := by
  have := Q.lookOk (n := n) K ho ht hd hz hx hy hi hp
  rw [hv] at this; exact this
theorem Q.lookNone {P : Program} [Tab P] {n : Nat} {E : Env} {S S' : List HP} {o : Oper} {x y : Operand} {k t ev' b : Nat} {α β : Type} [DecidableEq α] {kenc : α → Value} {venc : β → Value} {ok : α → Prop} {l : List (α × β)} {r : Row} (K : KeyEnc P k kenc ok) {i : α} {zv : Value} (hv : kget l i = none) (ho : o.op = .lookup t x y true) (ht : ty P t = some r) (hd : r.d = .map k ev') (hz : ∀ w, (zeroValue ev').run P w = .ok zv w) (hx : ev E x = some (.map (some b))) (hy : ev E y = some (kenc i)) (hi : ok i)
    (hp : Pick (Mp P k kenc venc b l) S S') : QOp P n E S o (.tuple #[zv, .bool false]) := by
  have := Q.lookOk (n := n) K ho ht hd hz hx hy hi hp
  rw [hv] at this; exact this
abbrev encVt (p : Nat × Nat) : Value := .agg #[nv p.1, nv p.2]
theorem keyOf_vote {a b : Nat} (ha : okN a) (hb : okN b) : keyOf Tryz.prog 150 (encVt (a, b)) = some (.string (keyBytes [.int .i64 a, .int .i64 b])) := by
  have wa : (Lit.int .i64 a).wf = true := by unfold okN at ha; simp [Lit.wf, IntKind.min, IntKind.max, IntKind.bits, IntKind.signed]; omega
  have wb : (Lit.int .i64 b).wf = true := by unfold okN at hb; simp [Lit.wf, IntKind.min, IntKind.max, IntKind.bits, IntKind.signed]; omega
  have hkt : Tryz.prog.keyType 150 = true := by kernel_rfl
  have hc : Tryz.prog.cellsOf 150 = 2 := by kernel_rfl
  have hc3 : Tryz.prog.cellsOf 3 = 1 := by kernel_rfl
  have hm : ∃ m, Tryz.prog.types.size = m + 1 := ⟨Tryz.prog.types.size - 1, by kernel_rfl⟩
  obtain ⟨m, hm⟩ := hm
  unfold keyOf
  simp only [Tryz.underlying150]
  rw [if_pos (by simp [hkt, Value.formed, Tryz.underlying150, hc]), hm]
  unfold Program.keyLits
  simp only [Tryz.underlying150, Value.cells]
  rw [if_pos (by rw [hc]; exact ⟨rfl, by simp⟩)]
  simp [hc3, Program.keyLits, Tryz.underlying3, wa, wb]
theorem K150 : KeyEnc Tryz.prog 150 encVt fun p => okN p.1 ∧ okN p.2 where
  keyed := Maps.Keyed.of_law (deep_law (m := 3) (by omega) (by kernel_rfl) (by kernel_rfl) (by rw [Tryz.underlying150]))
  reads x hx := ⟨_, keyOf_vote hx.1 hx.2⟩
  inj x y h := by
    injection h with h
    have h := congrArg Array.toList h
    simp only [List.cons.injEq, Value.int.injEq, true_and, and_true] at h
    exact Prod.ext (by have := h.1; omega) (by have := h.2; omega)
def encKn (x : LE) : Value := .agg (encLE x).toArray
structure MG where
  lid : Nat → Nat
  vt : Nat → Nat → Nat
  KO : Nat → Rf.Ent → Nat → Prop
def KnD (K : List (Nat × LE)) : HP := fun r => ∀ p ∈ K, Rd false p.2.A (p.2.e.data.map bc) r
structure KnInv (G : MG) (L : List (Nat × Nat)) (V : List ((Nat × Nat) × Nat)) (K : List (Nat × LE)) (T : List (Nat × Nat)) : Prop where
  led : ∀ t v, kget L t = some v → v = G.lid t
  voted : ∀ n t v, kget V (n, t) = some v → v = G.vt t n
  known : ∀ i x, kget K i = some x → ∃ en u, x.e = ⟨i, en.term, en.data⟩ ∧ kget T i = some u ∧ G.KO i en u
  nz : (∀ t v, kget L t = some v → v ≠ 0) ∧ ∀ p v, kget V p = some v → v ≠ 0
structure MG.le (G G' : MG) : Prop where
  lid : ∀ t, G.lid t ≠ 0 → G'.lid t = G.lid t
  vt : ∀ t n, G.vt t n ≠ 0 → G'.vt t n = G.vt t n
  KO : ∀ i e u, G.KO i e u → G'.KO i e u
theorem KnInv.ext {G G' : MG} {L : List (Nat × Nat)} {V : List ((Nat × Nat) × Nat)} {K : List (Nat × LE)} {T : List (Nat × Nat)} (h : KnInv G L V K T) (hG : MG.le G G') : KnInv G' L V K T :=
  ⟨fun t v hk => by have h1 := h.led t v hk; have h2 := h.nz.1 t v hk; rw [hG.lid t (by omega)]; exact h1,
   fun n t v hk => by have h1 := h.voted n t v hk; have h2 := h.nz.2 _ v hk; rw [hG.vt t n (by omega)]; exact h1,
   fun i x hk => let ⟨en, u, a, b, c⟩ := h.known i x hk; ⟨en, u, a, b, hG.KO i en u c⟩, h.nz⟩
def MapsP (G : MG) (mL mV mK mT : Nat) : HP := fun r => ∃ L V K T, KnInv G L V K T ∧ Stars [Mp Tryz.prog 3 nv nv mL L, Mp Tryz.prog 150 encVt nv mV V, Mp Tryz.prog 3 nv encKn mK K, Mp Tryz.prog 3 nv nv mT T, KnD K] r
structure WC where
  pA : Option Addr
  pc : Nat
  SA : Option Addr
  sc : Nat
  NA : Option Addr
  nn : Nat
  nc : Nat
  mL : Nat
  mV : Nat
  mK : Nat
  mT : Nat
  hi : Nat
  calm : Bool
def wcells (c : Rf.Cfg) (a : WC) : List Value := [iv 0, .slice a.pA c.n a.pc, nv c.least, nv c.most, nv c.beat, nv c.batch, .slice a.SA c.n a.sc, .slice a.NA a.nn a.nc, .map (some a.mL), .map (some a.mV), .map (some a.mK), .map (some a.mT), nv a.hi, .bool a.calm]
structure SC where
  bo : Bool
  a : Nat
  id : Nat
  lA : Option Addr
  lc : Nat
  cm : Nat
  mo : Nat
  ro : Nat
  le : Nat
def ptIf (p : Bool) (a : Nat) : Value := bif p then pt a else .pointer none
def scells (x : SC) (d : Nd) : List Value := [nv x.id, ptIf (!x.bo) x.a, ptIf x.bo x.a, nv d.term, nv d.vote, nv d.snap, nv (d.tm d.snap), .slice x.lA (d.log.length - d.snap) x.lc, nv x.cm, nv x.mo, nv x.ro, nv x.le]
section
variable {P : Program} {n f : Nat} {e : Env} {L L' : List HP} {R : Fin} {k : List Item} {ds : List Deferred} {G : MG} {mL mV mK mT : Nat}
theorem W.maps (H : ∀ Ll V K T, KnInv G Ll V K T → W P f n R k e ds (Mp Tryz.prog 3 nv nv mL Ll :: Mp Tryz.prog 150 encVt nv mV V :: Mp Tryz.prog 3 nv encKn mK K :: Mp Tryz.prog 3 nv nv mT T :: KnD K :: L)) : W P f n R k e ds (MapsP G mL mV mK mT :: L) :=
  .ex fun Ll => .ex fun V => .ex fun K => .ex fun T => .pur fun hh => .ent (Ent.star (l := [_, _, _, _, _])) (H Ll V K T hh)
theorem MapsP.shut {Ll : List (Nat × Nat)} {V : List ((Nat × Nat) × Nat)} {K : List (Nat × LE)} {T : List (Nat × Nat)} (hh : KnInv G Ll V K T) : Ent (Mp Tryz.prog 3 nv nv mL Ll :: Mp Tryz.prog 150 encVt nv mV V :: Mp Tryz.prog 3 nv encKn mK K :: Mp Tryz.prog 3 nv nv mT T :: KnD K :: L) (MapsP G mL mV mK mT :: L) :=
  (Ent.unstar (l := [_, _, _, _, _])).trans (.of fun r hr => ⟨Ll, V, K, T, hh, hr⟩)
end
attribute [local irreducible] W RS RG RT RD Fn FnQ OpS QOp Own Sat Rd Gr Mp Rg Lg Ms Es Nod Rp NodI RLg RMs REs RN RLd RNF EsD MsD NBk BkP BkRd BothI MapsP KnD
section
variable {c : Rf.Cfg} {bs i : Nat} {x : SC} {d : Nd} {q : Bool} {les : List LE}
theorem ents_pos {i : Nat} {l : List Rf.Ent} {k : Nat} {en : Rf.Ent} (h : l[k]? = some en) : (ents i l)[k]? = some ⟨(i + k + 1 : Nat), en.term, en.data⟩ := by rw [ents_at, h]; rfl
theorem MapsP.ext {G G' : MG} {mL mV mK mT : Nat} (hG : MG.le G G') {r : Res} (h : MapsP G mL mV mK mT r) : MapsP G' mL mV mK mT r := by
  unfold MapsP at *
  obtain ⟨L, V, K, T, h1, h2⟩ := h
  exact ⟨L, V, K, T, h1.ext hG, h2⟩
theorem entry_yes {y : LE} {X : HP} (hX : Reads X x.lA (les.flatMap encLE)) (hles : les.map (·.e) = ents d.snap (d.log.drop d.snap)) (hi : d.snap < i) (hb : i ≤ 1099511627776) (hy : les[i - d.snap - 1]? = some y) :
    FnQ Tryz.prog 18 [pt bs, nv i].toArray [Blk q bs (scells x d) 52, X] (.tuple #[encKn y, .bool true]) := by
  have hlen := les_len hles
  rw [List.length_drop] at hlen
  have hlt := (List.getElem?_eq_some_iff.1 hy).1
  refine (Fn.quietD (M := [Blk false bs (scells x d) 52, Rd false x.lA (les.flatMap encLE)]) ?_ pers2).pre (lend2 hX)
  have hR : Reads (Rd false x.lA (les.flatMap encLE)) x.lA (les.flatMap encLE) := .rd
  refine Fn.enter Tryz.func18 rfl (by kernel_rfl) rfl ?_
  refine W.fact (fun w h => IsA.of (k := (i - d.snap - 1) * 3) hR (by exact pick) (by rw [flat_len lenLE]; omega) h) fun hA => ?_
  refine run ?_
  refine .new fun z4 => ?_
  refine run ?_
  refine .hit 33 rfl (by congr 1; omega : _ = nv (i - d.snap - 1)) ?_
  refine run ?_
  exact .retD Tryz.func18 (.r2 .agg (.tmp rfl))
theorem entry_no (hi : i ≤ d.snap ∨ d.log.length < i) (hs : d.snap ≤ d.log.length) (hl : d.log.length ≤ 1099511627776) (hb : i ≤ 1099511627776) :
    FnQ Tryz.prog 18 [pt bs, nv i].toArray [Blk q bs (scells x d) 52] (.tuple #[.agg #[iv 0, iv 0, .slice none 0 0], .bool false]) := by
  refine (Fn.quietD (M := [Blk false bs (scells x d) 52]) ?_ pers1).pre lend1
  refine Fn.enter Tryz.func18 rfl (by kernel_rfl) rfl ?_
  by_cases h1 : i ≤ d.snap
  all_goals
    refine run ?_
    refine .new fun z4 => ?_
    refine run ?_
    exact .retD Tryz.func18 (.r2 .agg (.tmp rfl))
end
end Go.SL
