/-
  A part of the proof of what E53 says at its head.
-/
import Derived.Test.YtocogcgnahbpkaaGreatE32
namespace Go.SL
open Go.Proofs Go.Proofs.YtocogcgnahbpkaaGreat
open Rs (Nd)
set_option maxRecDepth 10000
attribute [local irreducible] W RS RG RT RD Fn FnQ OpS QOp Own Sat Rd Gr Mp Rg Lg Ms Es Nod Rp NodI RLg RMs REs RN RLd RNF
theorem W.joinI {ι : Type} {P : Program} {n f : Nat} {e : Env} {L : List HP} {R : Fin} {x : Item} {k : List Item} {ds : List Deferred} (φ : ι → Prop) (e0 : ι → Env) (L0 : ι → List HP) (tail : ∀ i, φ i → W P f n R k (e0 i) ds (L0 i))
    (main : (∀ i, φ i → W P f n R k (e0 i) ds (L0 i)) → W P f n R (x :: k) e ds L) : W P f n R (x :: k) e ds L := main tail
section
variable {c : Cfg} {s s' : Nd} {p : Nat} {h : RW} {x : RX} {X Y D : HP} {d : Int} {A : Option Addr} {cp : Nat}
def bl (id k : Nat) : List Nat := (List.range' 1 k).filter (· ≠ id)
theorem bl_len {id k : Nat} : (bl id k).length ≤ k := Nat.le_trans (List.length_filter_le _ _) (by simp)
theorem bl_self {id k : Nat} (h : k + 1 = id) : bl id (k + 1) = bl id k := by
  unfold bl; rw [List.range'_concat, List.filter_append, List.filter_cons_of_neg (by simp; omega)]; simp
theorem bl_snoc {id k : Nat} (h : k + 1 ≠ id) : bl id (k + 1) = bl id k ++ [k + 1] := by
  unfold bl; rw [List.range'_concat, List.filter_append, List.filter_cons_of_pos (by simp; omega)]; simp [Nat.add_comm]
def blE (q : Nat) : List Value := [nv q, iv 0, iv 0, .bool false]
abbrev blankR : List Value := [iv 0, .slice none 0 0, iv 0, iv 0, iv 0, iv 0, iv 0, iv 0, .slice none 0 0, iv 0, iv 0, iv 0, iv 0, iv 0, iv 0, iv 0, iv 0, iv 0, .slice none 0 0, .slice none 0 0, .slice none 0 0, .slice none 0 0, .slice none 0 0, iv 0, iv 0, iv 0]
structure Blank (s : Nd) : Prop where
  mt : s.mt = fun _ => 0
  nx : s.nx = fun _ => 0
  hd : s.hd = []
  gr : s.gr = []
  rf : s.rf = []
theorem rnew_n {pA : Option Addr} {pc : Nat} {mes : List LE} (hc : CfgOk c) (hs : Sn c s) (hst : StOk c s) (hf : Fresh s) (hb : Blank s) (hX : Reads X pA (peersL c)) (hY : Reads Y A (mes.flatMap encLE)) (hD : DRead D mes) (hmes : mes.map (·.e) = ents s.snap (s.log.drop s.snap)) :
    Fn Tryz.prog 62 [.agg (cfgV c s.id pA pc).toArray, .agg (stV s A cp).toArray, iv d].toArray [X, Y, D]
    (fun v L => ∃ h, RwOk (Rs.rest c d s) h ∧ v = .tuple #[.agg (rcells c h (Rs.rest c d s) ⟨0, 0, 0, 0, 0⟩).toArray, iv 0] ∧ L = [RLdN h (Rs.rest c d s), OthR c h (Rs.rest c d s), GraR h (Rs.rest c d s), RefR h (Rs.rest c d s), X, Y, D]) := by
  have hml := les_len hmes
  rw [List.length_drop] at hml
  have hsf := hs.fin
  have hn := hc.n
  have hC := rconfig_t (pc := pc) hc hs.id hX
  have hS := rstate_t (pc := pc) (id := s.id) (cp := cp) hc.n hst hX hY hmes hsf.2.2.1
  have hdat : ∀ y ∈ mes, y.e.data.length ≤ 140737488351232 := fun y hy => by
    obtain ⟨k, hk⟩ := List.mem_iff_getElem?.1 hy
    obtain ⟨en, h1, h2⟩ := les_at hmes hk
    rw [h2]; exact hs.data en (List.mem_of_mem_drop (List.mem_of_getElem? h1))
  have hCp := copyLog_n (A := A) (cp := cp) (l := mes) (by omega) hdat
  rw [hml] at hCp
  have hpl : (li (List.range' 1 c.n)).length = c.n := by simp [li]
  refine Fn.enter Tryz.func62 rfl (by kernel_rfl) rfl ?_
  refine run ?_
  refine .box fun z => ?_
  refine .box fun z4 => ?_
  refine .new fun z6 => ?_
  refine run ?_
  refine .callQ hC ?_
  refine run ?_
  refine .callQ hS ?_
  refine run ?_
  refine W.joinI (ι := Nat × Option Addr × Nat × List LE) (fun i => i.2.2.2.map (·.e) = mes.map (·.e)) (fun i => [(2, iv d), (3, pt z), (6, pt z6), (8, .slice none 0 0), (9, pt i.1)])
    (fun i => [Blk true i.1 [nv s.id, .slice pA c.n pc, nv c.least, nv c.most, nv c.beat, nv c.batch, nv s.term, nv s.vote, .slice i.2.1 (s.log.length - s.snap) i.2.2.1, nv s.snap, nv (s.tm s.snap), nv s.commit, iv 1, iv 0, iv 0, iv 0, iv 0, iv 0, .slice none 0 0, .slice none 0 0, .slice none 0 0, .slice none 0 0, .slice none 0 0, iv 0, iv 0, iv 0] 93,
      Gr 3 67 i.2.1 (s.log.length - s.snap) i.2.2.1 (i.2.2.2.flatMap encLE), Gs i.2.2.2, Blk true z (cfgV c s.id pA pc) 27, X, Y, D, Blk true z6 blankR 93]) ?_ fun tail => ?_
  case' refine_2 =>
    refine W.plan [1009] mixed (by rfl) (by kernel_rfl) ?_
    refine run ?_
    refine .two ?_ ?_
    · refine .callN hCp (.trans (Picks.sub (a := [Y, D]) picks) ((Ent.of hY).trans (.cons _ (.of hD)))) ?_
      rintro v L ⟨l', A2, c2, rfl, h2, rfl⟩
      have hl2 : l'.length = s.log.length - s.snap := by have := congrArg List.length h2; simpa [hml] using this
      rw [hl2]
      refine runR ?_
      refine .new fun z9 => ?_
      refine runR ?_
      exact .back (tail (z9, A2, c2, l') h2)
    · refine .new fun z9 => ?_
      refine .callN hCp (.trans (Picks.sub (a := [Y, D]) picks) ((Ent.of hY).trans (.cons _ (.of hD)))) ?_
      rintro v L ⟨l', A2, c2, rfl, h2, rfl⟩
      have hl2 : l'.length = s.log.length - s.snap := by have := congrArg List.length h2; simpa [hml] using this
      rw [hl2]
      refine runR ?_
      exact .back (tail (z9, A2, c2, l') h2)
  rintro ⟨z9, A2, c2, l'⟩ h2
  dsimp only at h2 ⊢
  have hl2 : l'.length = s.log.length - s.snap := by have := congrArg List.length h2; simpa [hml] using this
  refine run ?_
  refine .ent (Ent.mk (X := Gr 1 3 none 0 0 []) fun r => .nil) ?_
  refine .push (sz := 1) (nn := 0) (m := c.n) (Src.pick rfl rfl (.tl (.tl (.tl (.tl .hd)))) hX (by rw [peers_len]; omega) rfl (allIv _)) fun A3 c3 => ?_
  simp only [Nat.zero_add, List.nil_append]
  refine run ?_
  refine .ent (Ent.mk (X := Gr 4 136 none 0 0 []) fun r => .nil) ?_
  refine W.loopH (ι := Nat × Option Addr × Nat) (fun i => i.1 ≤ c.n) (fun i => [(2, iv d), (3, pt z), (6, pt z6), (9, pt z9), (10, nv i.1)])
    (fun i => [Gr 4 136 i.2.1 (bl s.id i.1).length i.2.2 ((bl s.id i.1).flatMap blE), Blk true z9 [nv s.id, .slice A3 c.n c3, nv c.least, nv c.most, nv c.beat, nv c.batch, nv s.term, nv s.vote, .slice A2 (s.log.length - s.snap) c2, nv s.snap, nv (s.tm s.snap), nv s.commit, iv 1, iv 0, iv 0, iv 0, iv 0, iv 0, .slice i.2.1 (bl s.id i.1).length i.2.2, .slice none 0 0, .slice none 0 0, .slice none 0 0, .slice none 0 0, iv 0, iv 0, iv 0] 93,
      Gr 3 67 A2 (s.log.length - s.snap) c2 (l'.flatMap encLE), Gs l', Blk true z (cfgV c s.id pA pc) 27, X, Y, D, Blk true z6 (blankR) 93]) (fun i => c.n - i.1) (0, none, 0) (Nat.zero_le _) subs (Picks.sub picks) ?_
  rintro ⟨k, A1, c1⟩ hk ih
  dsimp only at hk ih ⊢
  have hbl : (bl s.id k).length ≤ k := bl_len
  by_cases hlt : k < c.n
  · refine W.fact (fun w h => IsA.of (k := k) hX pick (by rw [peers_len]; exact hlt) h) fun hA => ?_
    refine run ?_
    refine W.plan [] mixed (by rfl) (by kernel_rfl) ?_
    refine run ?_
    refine RG.take rfl rfl rfl rfl (R.load (v := nv (k + 1)) rfl rfl rfl rfl hX pick (by rw [Nat.mul_one]; exact peers_at hlt)) ?_ rfl
    by_cases hid : k + 1 = s.id
    · have e1 : bl s.id (k + 1) = bl s.id k := bl_self hid
      have h2 := ih (k + 1, A1, c1) hlt (by dsimp only; omega)
      rw [e1] at h2
      refine run ?_
      exact .back h2
    · have e1 : bl s.id (k + 1) = bl s.id k ++ [k + 1] := bl_snoc hid
      refine run ?_
      refine W.plan [] mixed (by rfl) (by kernel_rfl) ?_
      refine run ?_
      refine RG.take rfl rfl rfl rfl (R.load (v := nv (k + 1)) rfl rfl rfl rfl hX pick (by rw [Nat.mul_one]; exact peers_at hlt)) ?_ rfl
      refine run ?_
      refine .lit fun z2 => ?_
      refine run ?_
      refine .push (sz := 4) (m := 1) (Src.pick rfl rfl .hd .own rfl rfl rfl) fun A5 c5 => ?_
      refine run ?_
      have h2 := ih (k + 1, A5, c5) hlt (by dsimp only; omega)
      rw [e1, List.length_append, List.flatMap_append, List.flatMap_singleton] at h2
      exact .back h2
  · have hkn : k = c.n := by omega
    subst hkn
    have e2 : bl s.id c.n = oth c (Rs.rest c d s) := rfl
    have e3 : (bl s.id c.n).flatMap blE = (oth c (Rs.rest c d s)).flatMap (peerE (Rs.rest c d s)) := by
      rw [e2]; congr 1; funext q; simp [peerE, blE, Rs.rest, hb.mt, hb.nx, hb.hd]
    have e5 : rcells c ⟨A3, c3, A2, c2, s.log.length - s.snap, s.tm s.snap, A1, c1, none, 0, none, 0, none, 0, none, 0⟩ (fresh s) ⟨0, 0, 0, 0, 0⟩ = [nv s.id, .slice A3 c.n c3, nv c.least, nv c.most, nv c.beat, nv c.batch, nv s.term, nv s.vote, .slice A2 (s.log.length - s.snap) c2, nv s.snap, nv (s.tm s.snap), nv s.commit, iv 1, iv 0, iv 0, iv 0, iv 0, iv 0, .slice A1 (bl s.id c.n).length c1, .slice none 0 0, .slice none 0 0, .slice none 0 0, .slice none 0 0, iv 0, iv 0, iv 0] := by
      unfold rcells
      rw [show (fresh s).gr = [] from hb.gr, show (fresh s).rf = [] from hb.rf]; rfl
    refine run ?_
    refine .ent ((Picks.ent (a := [Blk true z9 [nv s.id, .slice A3 c.n c3, nv c.least, nv c.most, nv c.beat, nv c.batch, nv s.term, nv s.vote, .slice A2 (s.log.length - s.snap) c2, nv s.snap, nv (s.tm s.snap), nv s.commit, iv 1, iv 0, iv 0, iv 0, iv 0, iv 0, .slice A1 (bl s.id c.n).length c1, .slice none 0 0, .slice none 0 0, .slice none 0 0, .slice none 0 0, iv 0, iv 0, iv 0] 93]) picks).trans (.of (Y := Rb true z9 c ⟨A3, c3, A2, c2, s.log.length - s.snap, s.tm s.snap, A1, c1, none, 0, none, 0, none, 0, none, 0⟩ (fresh s) ⟨0, 0, 0, 0, 0⟩) fun _ hq => by rw [Rb, e5]; exact hq)) ?_
    refine .callQ (drawn_q (c := c) (h := ⟨A3, c3, A2, c2, s.log.length - s.snap, s.tm s.snap, A1, c1, none, 0, none, 0, none, 0, none, 0⟩) (s := fresh s) (x := ⟨0, 0, 0, 0, 0⟩) (p := z9) (q := true) (d := d) hs.cf) ?_
    refine run ?_
    refine .ent ((Picks.ent (a := [Gr 4 136 A1 (bl s.id c.n).length c1 ((bl s.id c.n).flatMap blE)]) picks).trans (.of (Y := Rd false A1 ((oth c (Rs.rest c d s)).flatMap (peerE (Rs.rest c d s)))) fun _ hq => by rw [← e3]; exact hq.rd.lend)) ?_
    refine .ent ((Picks.ent (a := [Gr 3 67 A2 (s.log.length - s.snap) c2 (l'.flatMap encLE), Gs l']) picks).trans ((Ent.of Reads.gr).trans ((Ent.cons _ (Ent.of fun _ hq => hq.ds)).trans (RLd.close (i := s.snap) (l := s.log.drop s.snap) (by rw [h2, hmes]))))) ?_
    refine .ent (Ent.mk (X := Rd false none ((li s.gr).map iv)) fun r => by rw [hb.gr]; exact Rd.nil) ?_
    refine .ent (Ent.mk (X := Rd false none ((li s.rf).map iv)) fun r => by rw [hb.rf]; exact Rd.nil) ?_
    refine .retE Tryz.func62 ⟨⟨A3, c3, A2, c2, s.log.length - s.snap, s.tm s.snap, A1, c1, none, 0, none, 0, none, 0, none, 0⟩, ⟨rfl, rfl⟩, ?_, rfl⟩ (.r2 .agg (.tmp rfl))
    rw [← fresh_eq hf]; rfl
end
end Go.SL
namespace Go.SL
open Go.Proofs Go.Proofs.YtocogcgnahbpkaaGreat
open Rs (Nd)
set_option maxRecDepth 10000
theorem RLd.pers {A : Option Addr} {i : Nat} {l : List Rf.Ent} : Pers (RLd A i l) := fun r ⟨les, h, r1, r2, a, b, _, d, s1, _, a', _, _, d', _⟩ =>
  have sh : ∀ {x y : Res}, x.le y → x.sh.le y.sh := fun {x y} h i q o e => by obtain ⟨rfl, q', e'⟩ := Res.sh_at e; obtain ⟨q2, e2, _⟩ := h i q' o e'; exact ⟨false, Res.sh_some e2, id⟩
  ⟨les, h, r1.sh, r2.sh, sh a, sh b, fun i q o q' o' e e' => ⟨(Res.sh_at e).1, (Res.sh_at e').1⟩, Rd.pers r1 d, s1.sh, fun _ => none, sh a', fun _ _ _ h => (nomatch h), fun _ _ _ _ _ _ h => (nomatch h), Ds.pers s1 d', trivial⟩
theorem RLd.len {A : Option Addr} {i : Nat} {l : List Rf.Ent} {w : World} {L : List HP} (h : Sat w (RLd A i l :: L)) : True := trivial
def EsD (ys : List LM) : HP := fun r => ∀ y ∈ ys, RLd y.A y.m.idx y.m.es r
theorem EsD.pers {ys : List LM} : Pers (EsD ys) := fun r h y hy => RLd.pers r (h y hy)
theorem RLd.le {A : Option Addr} {i : Nat} {l : List Rf.Ent} {r s : Res} (h : RLd A i l r) (hs : r.le s) : RLd A i l s := by
  obtain ⟨les, h, r1, r2, a, b, c⟩ := h
  exact ⟨les, h, r1, r2, a.trans hs, b.trans hs, c⟩
theorem REs.d : ∀ {ys : List LM} {r : Res}, REs ys r → EsD ys r
  | [], _, _ => fun _ h => nomatch h
  | x :: l, r, ⟨r1, r2, a, b, c, d, s1, s2, a', b', c', d', _⟩ => fun y hy => by
    rcases List.mem_cons.1 hy with rfl | hy
    · exact (RLg.lend d).le a
    · exact ((REs.d d' y hy).le a').le b
theorem Lg.lend {A : Option Addr} {n c i : Nat} {l : List Rf.Ent} {r : Res} (h : Lg A n c i l r) : RLd A i l r := by
  obtain ⟨les, h1, h2⟩ := h
  obtain ⟨r1, r2, a, b, s1, g, r3, r4, a', b', s2, d, t⟩ := h2
  exact ⟨les, h1, r1, r2, a, b, s1, g.rd.lend, r3, r4, a', b', s2, d.ds, t⟩
theorem Es.d : ∀ {ys : List LM} {r : Res}, Es ys r → EsD ys r
  | [], _, _ => fun _ h => nomatch h
  | x :: l, r, ⟨r1, r2, a, b, c, d, s1, s2, a', b', c', d', _⟩ => fun y hy => by
    rcases List.mem_cons.1 hy with rfl | hy
    · exact (Lg.lend d).le a
    · exact ((Es.d d' y hy).le a').le b
def MsD (A : Option Addr) (ms : List Rf.Msg) : HP := fun r => ∃ ys : List LM, ys.map (·.m) = ms ∧ Stars [Rd false A (ys.flatMap encL), EsD ys] r
theorem Ms.lend {A : Option Addr} {n c : Nat} {ms : List Rf.Msg} {r : Res} (h : Ms A n c ms r) : MsD A ms r := by
  obtain ⟨ys, h1, r1, r2, a, b, s1, g, r3, r4, a', b', s2, d, t⟩ := h
  exact ⟨ys, h1, r1, r2, a, b, s1, g.rd.lend, r3, r4, a', b', s2, d.d, t⟩
theorem RMs.lend {A : Option Addr} {n c : Nat} {ms : List Rf.Msg} {r : Res} (h : RMs A n c ms r) : MsD A ms r := by
  obtain ⟨ys, h1, r1, r2, a, b, s1, g, r3, r4, a', b', s2, d, t⟩ := h
  exact ⟨ys, h1, r1, r2, a, b, s1, g.rd.lend, r3, r4, a', b', s2, d.d, t⟩
theorem EsD.at {ys : List LM} {y : LM} {r : Res} (hy : y ∈ ys) (h : EsD ys r) : RLd y.A y.m.idx y.m.es r := h y hy
structure Rdy where
  term : Nat := 0
  vote : Nat := 0
  write : Bool := false
  from_ : Nat := 0
  ei : Nat := 0
  es : List Rf.Ent := []
  ms : List Rf.Msg := []
  commit : Nat := 0
  sn : List Nat := []
  role : Nat := 0
  leader : Nat := 0
  first : Nat := 0
  last : Nat := 0
def rdV (r : Rdy) (EA : Option Addr) (ec : Nat) (MA : Option Addr) (mc : Nat) (SA : Option Addr) (sc : Nat) : List Value :=
  [nv r.term, nv r.vote, .bool r.write, nv r.from_, .slice EA r.es.length ec, .slice MA r.ms.length mc, nv r.commit, .slice SA r.sn.length sc, nv r.role, nv r.leader, nv r.first, nv r.last]
structure Rdy.Ok (r : Rdy) : Prop where
  es : r.es.length ≤ 1000000
  ms : r.ms.length ≤ 1000
  me : ∀ m ∈ r.ms, m.es.length ≤ 1000000
  sn : r.sn.length ≤ 1000
theorem FnQ.open {P : Program} {f : Nat} {ar : Array Value} {v : Value} {X : HP} {L : List HP} {ι : Type} {φ : ι → Prop} {K : ι → List HP} (he : Enters P f) (hX : ∀ r, X r → ∃ i, φ i ∧ Stars (K i) r) (h : ∀ i, φ i → FnQ P f ar (K i ++ L) v) : FnQ P f ar (X :: L) v :=
  ⟨he, fun w ⟨r, a, r1, r2, x, y, z, u, t⟩ => let ⟨i, h1, h2⟩ := hX r1 u; (h i h1).2 w ⟨r, a, Stars.app.2 ⟨r1, r2, x, y, z, h2, t⟩⟩⟩
attribute [local irreducible] W RS RG RT RD Fn FnQ OpS QOp Own Sat Rd Gr Mp Rg Lg Ms Es Nod Rp NodI RLg RMs REs RN RLd RNF EsD MsD
section
variable {c : Cfg} {s s' : Nd} {X Y D : HP} {A B : Option Addr} {cp cq : Nat} {m : Rf.Msg} {l : List Rf.Ent} {ms : List Rf.Msg} {i : Nat}
theorem Q.eqB {P : Program} {n : Nat} {e : Env} {S : List HP} {o : Oper} {t t' : Nat} {x y : Operand} {a b : Bool} (ho : o.op = .binOp .eql t x y t') (hx : ev e x = some (.bool a)) (hy : ev e y = some (.bool b)) (ht : P.underlying t = some .bool) : QOp P n e S o (.bool (a == b)) :=
  Q.bin ho hx hy (fun w => by unfold eqGuard; split <;> simp) fun w => run_eql_bool w t a b ht
theorem sameLog_d (hl : l.length ≤ 1099511627776) : FnQ Tryz.prog 45 [.slice A l.length cp, .slice B l.length cq].toArray [RLd A i l, RLd B i l] (.bool true) := by
  refine FnQ.open (.of Tryz.func45 rfl (by kernel_rfl)) (ι := List LE) (φ := fun les => les.map (·.e) = ents i l) (K := fun les => [Rd false A (les.flatMap encLE), Ds les]) (fun r h => by unfold RLd at h; exact h) fun les hles => ?_
  refine FnQ.pre ?_ (Picks.ent (a := [RLd B i l]) picks)
  refine FnQ.open (.of Tryz.func45 rfl (by kernel_rfl)) (ι := List LE) (φ := fun les => les.map (·.e) = ents i l) (K := fun les => [Rd false B (les.flatMap encLE), Ds les]) (fun r h => by unfold RLd at h; exact h) fun les2 hles2 => ?_
  have h1 := les_len hles
  have h2 := les_len hles2
  have := sameLog_t (X := Rd false A (les.flatMap encLE)) (D := Ds les) (Y := Rd false B (les2.flatMap encLE)) (E := Ds les2) (c := cp) (c' := cq) .rd (fun _ h => h) .rd (fun _ h => h) (by omega) (hles.trans hles2.symm)
  rw [h1, h2] at this
  exact this.pre (Picks.sub picks)
theorem sameMsg_d (hl : m.es.length ≤ 1099511627776) : FnQ Tryz.prog 71 [.agg (encM m A cp).toArray, .agg (encM m B cq).toArray].toArray [RLd A m.idx m.es, RLd B m.idx m.es] (.bool true) := by
  refine Fn.quietD (M := [RLd A m.idx m.es, RLd B m.idx m.es]) ?_ (fun Q hQ => by
    rcases List.mem_cons.1 hQ with rfl | hQ
    · exact RLd.pers
    · rw [List.mem_singleton.1 hQ]; exact RLd.pers)
  refine Fn.enter Tryz.func71 rfl (by kernel_rfl) rfl ?_
  refine run ?_
  refine .box fun z => ?_
  refine .box fun z3 => ?_
  refine run ?_
  refine .quiet rfl rfl rfl (Q.eqB rfl rfl rfl Tryz.underlying4) ?_
  refine RS.hit 55 rfl (by simp : _ = .bool true) ?_
  refine run ?_
  refine .callQ (sameLog_d (cp := cp) (cq := cq) (i := m.idx) hl) ?_
  refine run ?_
  exact .retD Tryz.func71
theorem sameReady_d {r : Rdy} {EA EB MA MB SA SB : Option Addr} {ec ed mc md sc sd : Nat} (hr : r.Ok) : FnQ Tryz.prog 54 [.agg (rdV r EA ec MA mc SA sc).toArray, .agg (rdV r EB ed MB md SB sd).toArray].toArray
    [MsD MA r.ms, MsD MB r.ms, RLd EA r.ei r.es, RLd EB r.ei r.es, Rd false SA ((li r.sn).map iv), Rd false SB ((li r.sn).map iv)] (.bool true) := by
  have hes := hr.es
  have hms := hr.ms
  have hsn := hr.sn
  refine FnQ.open (.of Tryz.func54 rfl (by kernel_rfl)) (ι := List LM) (φ := fun ys => ys.map (·.m) = r.ms) (K := fun ys => [Rd false MA (ys.flatMap encL), EsD ys]) (fun r h => by unfold MsD at h; exact h) fun ys hys => ?_
  refine FnQ.pre ?_ (Picks.ent (a := [MsD MB r.ms]) picks)
  refine FnQ.open (.of Tryz.func54 rfl (by kernel_rfl)) (ι := List LM) (φ := fun ys => ys.map (·.m) = r.ms) (K := fun ys => [Rd false MB (ys.flatMap encL), EsD ys]) (fun r h => by unfold MsD at h; exact h) fun zs hzs => ?_
  have hyl : ys.length = r.ms.length := by rw [← hys, List.length_map]
  have hzl : zs.length = r.ms.length := by rw [← hzs, List.length_map]
  have hRy : Reads (Rd false MA (ys.flatMap encL)) MA (ys.flatMap encL) := .rd
  have hRz : Reads (Rd false MB (zs.flatMap encL)) MB (zs.flatMap encL) := .rd
  have hSA : Reads (Rd false SA ((li r.sn).map iv)) SA ((li r.sn).map iv) := .rd
  have hSB : Reads (Rd false SB ((li r.sn).map iv)) SB ((li r.sn).map iv) := .rd
  refine FnQ.pre ?_ (Picks.sub (a := [Rd false MA (ys.flatMap encL), EsD ys, Rd false MB (zs.flatMap encL), EsD zs, RLd EA r.ei r.es, RLd EB r.ei r.es, Rd false SA ((li r.sn).map iv), Rd false SB ((li r.sn).map iv)]) picks)
  refine Fn.quietD (M := [Rd false MA (ys.flatMap encL), EsD ys, Rd false MB (zs.flatMap encL), EsD zs, RLd EA r.ei r.es, RLd EB r.ei r.es, Rd false SA ((li r.sn).map iv), Rd false SB ((li r.sn).map iv)]) ?_ (fun Q hQ => by
    simp only [List.mem_cons, List.not_mem_nil, or_false] at hQ
    rcases hQ with rfl | rfl | rfl | rfl | rfl | rfl | rfl | rfl
    all_goals first | exact Rd.pers | exact EsD.pers | exact RLd.pers)
  refine Fn.enter Tryz.func54 rfl (by kernel_rfl) rfl ?_
  refine run ?_
  refine .box fun z => ?_
  refine .box fun z3 => ?_
  refine run ?_
  refine .quiet rfl rfl rfl (Q.loadPart (vs := [nv r.term, nv r.vote]) rfl rfl rfl rfl pick rfl rfl) ?_
  refine run ?_
  refine .quiet rfl rfl rfl (Q.loadPart (vs := [nv r.term, nv r.vote]) rfl rfl rfl rfl pick rfl rfl) ?_
  refine .quiet rfl rfl rfl (Q.neqH rfl rfl rfl) ?_
  refine RS.hit 11 rfl (by simp : _ = .bool false) ?_
  refine run ?_
  refine .quiet rfl rfl rfl (Q.neqB rfl rfl rfl Tryz.underlying4) ?_
  refine RS.hit 17 rfl (by simp : _ = .bool false) ?_
  refine run ?_
  refine .callQ (sameLog_d (A := EA) (B := EB) (cp := ec) (cq := ed) (i := r.ei) (l := r.es) (by omega)) ?_
  refine run ?_
  refine W.loopH (ι := Nat) (fun k => k ≤ r.ms.length) (fun k => [(2, pt z), (3, pt z3), (5, nv k)])
    (fun k => [Blk true z3 (rdV r EB ed MB md SB sd) 80, Blk true z (rdV r EA ec MA mc SA sc) 80, Rd false MA (ys.flatMap encL), EsD ys, Rd false MB (zs.flatMap encL), EsD zs, RLd EA r.ei r.es, RLd EB r.ei r.es, Rd false SA ((li r.sn).map iv), Rd false SB ((li r.sn).map iv)]) (fun k => r.ms.length - k) 0 (Nat.zero_le _) subs (.refl _) ?_
  intro k hk ih
  by_cases hlt : k < r.ms.length
  · obtain ⟨y, hy⟩ : ∃ y, ys[k]? = some y := ⟨_, List.getElem?_eq_getElem (by omega)⟩
    obtain ⟨u, hu⟩ : ∃ u, zs[k]? = some u := ⟨_, List.getElem?_eq_getElem (by omega)⟩
    have hyu : y.m = u.m := by
      have h1 := congrArg (fun l => l[k]?) hys
      have h2 := congrArg (fun l => l[k]?) hzs
      simp only [List.getElem?_map, hy, hu, Option.map_some] at h1 h2
      rw [← h2] at h1; injection h1
    have hym : y.m ∈ r.ms := by rw [← hys]; exact List.mem_map_of_mem (List.mem_of_getElem? hy)
    have hM := sameMsg_d (m := y.m) (A := y.A) (B := u.A) (cp := y.c) (cq := u.c) (by have := hr.me y.m hym; omega)
    refine W.fact (fun w h => IsA.of (k := k * 10) hRy (by exact pick) (by rw [flat_len lenLM]; omega) h) fun hA => ?_
    refine W.fact (fun w h => IsA.of (k := k * 10) hRz (by exact pick) (by rw [flat_len lenLM]; omega) h) fun hB => ?_
    refine run ?_
    refine W.plan [10] mixed (by rfl) (by kernel_rfl) ?_
    refine run ?_
    refine RG.hit 101 rfl (by rw [encL, hyu] : _ = .agg (encM y.m u.A u.c).toArray) ?_
    refine .callQ (FnQ.pre hM (L := [RLd y.A y.m.idx y.m.es, RLd u.A y.m.idx y.m.es]) (M := [EsD ys, EsD zs]) ((Ent.of fun r h => EsD.at (List.mem_of_getElem? hy) h).trans (.cons _ (.of fun r h => by rw [hyu]; exact EsD.at (List.mem_of_getElem? hu) h)))) ?_
    refine run ?_
    exact .back (ih (k + 1) (by omega) (by omega))
  · refine run ?_
    refine W.loopH (ι := Nat) (fun k => k ≤ r.sn.length) (fun k => [(2, pt z), (3, pt z3), (6, nv k)])
      (fun k => [Blk true z3 (rdV r EB ed MB md SB sd) 80, Blk true z (rdV r EA ec MA mc SA sc) 80, Rd false MA (ys.flatMap encL), EsD ys, Rd false MB (zs.flatMap encL), EsD zs, RLd EA r.ei r.es, RLd EB r.ei r.es, Rd false SA ((li r.sn).map iv), Rd false SB ((li r.sn).map iv)]) (fun k => r.sn.length - k) 0 (Nat.zero_le _) subs (.refl _) ?_
    intro j hj ih2
    by_cases hjl : j < r.sn.length
    · obtain ⟨y, hy⟩ : ∃ y, r.sn[j]? = some y := ⟨_, List.getElem?_eq_getElem hjl⟩
      refine W.fact (fun w h => IsA.of (k := j) hSA (by exact pick) (by simpa using hjl) h) fun hA => ?_
      refine W.fact (fun w h => IsA.of (k := j) hSB (by exact pick) (by simpa using hjl) h) fun hB => ?_
      refine run ?_
      refine W.plan [] mixed (by rfl) (by kernel_rfl) ?_
      refine run ?_
      refine RG.take rfl rfl rfl rfl (R.load (v := nv y) rfl rfl rfl rfl hSA pick (by rw [Nat.mul_one]; simp [hy])) ?_ rfl
      refine run ?_
      refine RG.take rfl rfl rfl rfl (R.load (v := nv y) rfl rfl rfl rfl hSB pick (by rw [Nat.mul_one]; simp [hy])) ?_ rfl
      refine run ?_
      exact .back (ih2 (j + 1) (by omega) (by omega))
    · refine run ?_
      exact .retD Tryz.func54
end
end Go.SL
namespace Go.SL
open Go.Proofs Go.Proofs.YtocogcgnahbpkaaGreat
open Rs (Nd)
set_option maxRecDepth 10000
attribute [local irreducible] W RS RG RT RD Fn FnQ OpS QOp Own Sat Rd Gr Mp Rg Lg Ms Es Nod Rp NodI RLg RMs REs RN RLd RNF EsD MsD
def ncells (pp : Nat) (c : Cfg) (h : RW) (s : Nd) (x : RX) (LA : Option Addr) (ln lc : Nat) (MA : Option Addr) (mn mc : Nat) : List Value :=
  pt pp :: (rcells c h s x ++ [.slice LA ln lc, .slice MA mn mc])
section
variable {c : Cfg} {s s' : Nd} {X Y D : HP} {A B : Option Addr} {cp cq : Nat} {m : Rf.Msg} {l : List Rf.Ent} {ms : List Rf.Msg} {i b pp : Nat} {h : RW} {x : RX} {LA MA : Option Addr} {ln lc mn mc : Nat}
theorem rstate_n (hs : Sn c s) (hh : RwOk s h) : Fn Tryz.prog 38 [.pointer (some ⟨b, 1, none⟩)].toArray [Blk true b (ncells pp c h s x LA ln lc MA mn mc) 97, RLdN h s]
    (fun v L => ∃ A cp, v = .agg (stV s A cp).toArray ∧ L = [Blk true b (ncells pp c h s x LA ln lc MA mn mc) 97, RLdN h s, Lg A (s.log.length - s.snap) cp s.snap (s.log.drop s.snap)]) := by
  have hln := hh.1
  have hf := hs.fin
  refine Fn.enter Tryz.func38 rfl (by kernel_rfl) rfl ?_
  refine run ?_
  refine .new fun z => ?_
  refine run ?_
  refine .first (RLdN h s) ?_
  refine .rld fun les hles => ?_
  have hlen := les_len hles
  rw [List.length_drop] at hlen
  have hdat : ∀ y ∈ les, y.e.data.length ≤ 140737488351232 := fun y hy => by
    obtain ⟨k, hk⟩ := List.mem_iff_getElem?.1 hy
    obtain ⟨en, h1, h2⟩ := les_at hles hk
    rw [h2]; exact hs.data en (List.mem_of_mem_drop (List.mem_of_getElem? h1))
  have hC := copyLog_n (A := h.lA) (cp := h.lc) (l := les) (by omega) hdat
  rw [hlen, ← hln] at hC
  refine W.plan [1025] mixed (by rfl) (by kernel_rfl) ?_
  refine run ?_
  refine .callN hC (Picks.sub picks) ?_
  rintro v N ⟨l', A2, c2, rfl, h2, rfl⟩
  have hl2 : l'.length = s.log.length - s.snap := by have := congrArg List.length h2; simp at this; omega
  rw [hl2]
  refine run ?_
  refine .ent ((Picks.ent (a := [Gr 3 67 A2 (s.log.length - s.snap) c2 (l'.flatMap encLE), Gs l']) picks).trans (Lg.close (h2.trans hles))) ?_
  refine .ent ((Picks.ent (a := [Rd false h.lA (les.flatMap encLE), Ds les]) picks).trans (RLd.close hles)) ?_
  rw [show h.tS = s.tm s.snap from hh.2]
  exact .retE Tryz.func38 ⟨A2, c2, rfl, rfl⟩ (.r1 .agg)
theorem rprogress_n (hn : 1 ≤ c.n ∧ c.n ≤ 5) : Fn Tryz.prog 42 [.pointer (some ⟨b, 1, none⟩)].toArray [Blk true b (ncells pp c h s x LA ln lc MA mn mc) 97, OthR c h s]
    (fun v L => ∃ A cp, v = .slice A (progL c s).length cp ∧ L = [Blk true b (ncells pp c h s x LA ln lc MA mn mc) 97, OthR c h s, Gr 3 104 A (progL c s).length cp ((progL c s).flatMap (progE s))]) := by
  have hol := oth_len (c := c) (s := s) hn.2
  refine Fn.enter Tryz.func42 rfl (by kernel_rfl) rfl ?_
  by_cases hr : s.role = 4
  · have e1 : progL c s = oth c s := if_pos hr
    have hR : Reads (OthR c h s) h.oA ((oth c s).flatMap (peerE s)) := .rd
    rw [e1]
    refine run ?_
    refine .ent (Ent.mk (X := Gr 3 104 none 0 0 []) fun r => .nil) ?_
    refine W.loopH (ι := Nat × Option Addr × Nat) (fun i => i.1 ≤ (oth c s).length) (fun i => [(0, .pointer (some ⟨b, 1, none⟩)), (3, .slice i.2.1 i.1 i.2.2), (4, nv i.1)])
      (fun i => [Gr 3 104 i.2.1 i.1 i.2.2 (((oth c s).take i.1).flatMap (progE s)), Blk true b (ncells pp c h s x LA ln lc MA mn mc) 97, OthR c h s])
      (fun i => (oth c s).length - i.1) (0, none, 0) (Nat.zero_le _) subs (Picks.sub picks) ?_
    rintro ⟨k, A1, c1⟩ hk ih
    dsimp only at hk ih ⊢
    by_cases hlt : k < (oth c s).length
    · obtain ⟨y, hy⟩ : ∃ y, (oth c s)[k]? = some y := ⟨_, List.getElem?_eq_getElem hlt⟩
      refine W.fact (fun w h => IsA.of (k := k * 4) hR pick (by rw [flat_len peerE_len]; omega) h) fun hA => ?_
      refine run ?_
      refine W.plan [] mixed (by rfl) (by kernel_rfl) ?_
      refine run ?_
      refine RG.takeP rfl rfl rfl rfl (Q.buildArr rfl rfl rfl rfl rfl) ?_
      refine run ?_
      refine .lit fun z2 => ?_
      refine run ?_
      refine .push (sz := 3) (m := 1) (Src.pick rfl rfl .hd .own rfl rfl rfl) fun A3 c3 => ?_
      refine run ?_
      have h2 := ih (k + 1, A3, c3) hlt (by dsimp only; omega)
      rw [List.take_add_one, hy] at h2
      simp only [Option.toList_some, List.flatMap_append, List.flatMap_singleton] at h2
      exact .back h2
    · have hk : k = (oth c s).length := by omega
      subst hk
      rw [List.take_length]
      refine run ?_
      exact .retE Tryz.func42 ⟨A1, c1, rfl, rfl⟩
  · have e1 : progL c s = [] := if_neg hr
    rw [e1]
    refine run ?_
    refine .ent (Ent.mk (X := Gr 3 104 none 0 0 []) fun r => .nil) ?_
    exact .retE Tryz.func42 ⟨none, 0, rfl, rfl⟩
theorem Q.eqH {n : Nat} {e : Env} {S : List HP} {o : Oper} {t' : Nat} {x y : Operand} {a b c d : Int} (ho : o.op = .binOp .eql 45 x y t') (hx : ev e x = some (.agg #[iv a, iv b])) (hy : ev e y = some (.agg #[iv c, iv d])) : QOp Tryz.prog n e S o (.bool (decide (a = c ∧ b = d))) :=
  Q.bin ho hx hy (fun w => run_eqGuard_agg w .eql 45 _ _ _ _ (by kernel_rfl)) fun w => by
    have u3 := Tryz.underlying3
    have a3 := Tryz.isAgg3
    have z3 := Tryz.sizeOf3
    have hS : Tryz.prog.underlying 45 = some (.struct (Tryz.prog.fieldsOf 45)) := by kernel_rfl
    have hp : Tryz.prog.stoodInHeld 45 = false := by kernel_rfl
    rw [run_eql_struct, show (10000 : Nat) = 9999 + 1 from rfl, run_equalIn_agg w 9999 45 _ _ hS hp]
    simp only [Program.fieldsOf, Tryz.underlying45]
    go_simp
    by_cases h1 : a = c <;> by_cases h2 : b = d <;> simp [h1, h2]
theorem sameState_d (hs : Sn c s) : FnQ Tryz.prog 37 [.agg (stV s A cp).toArray, .agg (stV s B cq).toArray].toArray [RLd A s.snap (s.log.drop s.snap), RLd B s.snap (s.log.drop s.snap)] (.bool true) := by
  have hf := hs.fin
  refine Fn.quietD (M := [RLd A s.snap (s.log.drop s.snap), RLd B s.snap (s.log.drop s.snap)]) ?_ (fun Q hQ => by
    rcases List.mem_cons.1 hQ with rfl | hQ
    · exact RLd.pers
    · rw [List.mem_singleton.1 hQ]; exact RLd.pers)
  have hL := sameLog_d (A := A) (B := B) (cp := cp) (cq := cq) (i := s.snap) (l := s.log.drop s.snap) (by rw [List.length_drop]; omega)
  rw [List.length_drop] at hL
  refine Fn.enter Tryz.func37 rfl (by kernel_rfl) rfl ?_
  refine run ?_
  refine .box fun z => ?_
  refine .box fun z3 => ?_
  refine run ?_
  refine .quiet rfl rfl rfl (Q.loadPart (vs := [nv s.term, nv s.vote]) rfl rfl rfl rfl pick rfl rfl) ?_
  refine run ?_
  refine .quiet rfl rfl rfl (Q.loadPart (vs := [nv s.term, nv s.vote]) rfl rfl rfl rfl pick rfl rfl) ?_
  refine .quiet rfl rfl rfl (Q.eqH rfl rfl rfl) ?_
  refine RS.hit 9 rfl (by simp : _ = .bool true) ?_
  refine run ?_
  refine .callQ hL ?_
  refine run ?_
  exact .retD Tryz.func37
theorem Q.neqA {n : Nat} {e : Env} {S : List HP} {o : Oper} {t' : Nat} {x y : Operand} {a b c a' b' c' : Int} (ho : o.op = .binOp .neq 104 x y t') (hx : ev e x = some (.agg #[iv a, iv b, iv c])) (hy : ev e y = some (.agg #[iv a', iv b', iv c'])) : QOp Tryz.prog n e S o (.bool (decide (¬ (a = a' ∧ b = b' ∧ c = c')))) :=
  Q.bin ho hx hy (fun w => run_eqGuard_agg w .neq 104 _ _ _ _ (by kernel_rfl)) fun w => by
    have u3 := Tryz.underlying3
    have a3 := Tryz.isAgg3
    have z3 := Tryz.sizeOf3
    rw [run_neq_struct, show (10000 : Nat) = 9999 + 1 from rfl, run_equalIn_array (e := 3) (n := 3) w 9999 _ _ (by kernel_rfl) rfl]
    simp only [show List.range 3 = [0, 1, 2] from rfl, Op.eqItems, show Tryz.prog.cellsOf 3 = 1 by kernel_rfl]
    go_simp
    by_cases h1 : a = a' <;> by_cases h2 : b = b' <;> by_cases h3 : c = c' <;> simp [h1, h2, h3]
theorem sameProgress_d {l : List Nat} {s : Nd} (hl : l.length ≤ 1000) : FnQ Tryz.prog 41 [.slice A l.length cp, .slice B l.length cq].toArray [Rd false A (l.flatMap (progE s)), Rd false B (l.flatMap (progE s))] (.bool true) := by
  have hA0 : Reads (Rd false A (l.flatMap (progE s))) A (l.flatMap (progE s)) := .rd
  have hB0 : Reads (Rd false B (l.flatMap (progE s))) B (l.flatMap (progE s)) := .rd
  have hpl : ∀ y, (progE s y).length = 3 := fun _ => rfl
  refine Fn.quietD (M := [Rd false A (l.flatMap (progE s)), Rd false B (l.flatMap (progE s))]) ?_ (fun Q hQ => by
    rcases List.mem_cons.1 hQ with rfl | hQ
    · exact Rd.pers
    · rw [List.mem_singleton.1 hQ]; exact Rd.pers)
  refine Fn.enter Tryz.func41 rfl (by kernel_rfl) rfl ?_
  refine run ?_
  refine W.loopH (ι := Nat) (fun k => k ≤ l.length) (fun k => [(0, .slice A l.length cp), (1, .slice B l.length cq), (5, nv k)])
    (fun k => [Rd false A (l.flatMap (progE s)), Rd false B (l.flatMap (progE s))]) (fun k => l.length - k) 0 (Nat.zero_le _) subs (.refl _) ?_
  intro k hk ih
  by_cases hlt : k < l.length
  · obtain ⟨y, hy⟩ : ∃ y, l[k]? = some y := ⟨_, List.getElem?_eq_getElem hlt⟩
    refine W.fact (fun w h => IsA.of (k := k * 3) hA0 (by exact pick) (by rw [flat_len hpl]; omega) h) fun hA => ?_
    refine W.fact (fun w h => IsA.of (k := k * 3) hB0 (by exact pick) (by rw [flat_len hpl]; omega) h) fun hB => ?_
    refine run ?_
    refine W.plan [] mixed (by rfl) (by kernel_rfl) ?_
    refine run ?_
    refine RG.takeP rfl rfl rfl rfl (Q.neqA rfl rfl rfl) ?_
    refine RG.hit 25 rfl (by simp : _ = .bool false) ?_
    refine run ?_
    exact .back (ih (k + 1) (by omega) (by omega))
  · refine run ?_
    exact .retD Tryz.func41
end
end Go.SL
