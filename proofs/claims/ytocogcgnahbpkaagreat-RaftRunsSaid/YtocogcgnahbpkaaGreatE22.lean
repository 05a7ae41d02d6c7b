/-
  A part of the proof of what E53 says at its head.
-/
import Derived.Test.YtocogcgnahbpkaaGreatE21
namespace Go.SL
open Go.Proofs Go.Proofs.YtocogcgnahbpkaaGreat
open Rs (Nd)
attribute [local irreducible] W RS RG RD Fn FnQ OpS QOp Own Sat Rd Gr Mp Rg Lg Ms Es Nod Rp NodI
set_option maxRecDepth 10000
section
variable {c : Cfg} {h : HW} {s : Nd} {x : EX} {p bs : Nat} {d : Int} {l0 : List Rf.Ent} {fl : Nat × Nat} {ms : List Rf.Msg} {m : Rf.Msg} {A : Option Addr} {cp : Nat}
theorem copyLog_ok {X D : HP} {A : Option Addr} {c : Nat} {l : List LE} (hX : Reads X A (l.flatMap encLE)) (hD : DRead D l) (hl : l.length ≤ 1099511627776) (hd : ∀ x ∈ l, x.e.data.length ≤ 140737488351232) :
    Fn Tryz.prog 46 [.slice A l.length c].toArray [X, D] (Copied X D l) := by
  refine Fn.enter Tryz.func46 rfl (by kernel_rfl) rfl ?_
  refine run ?_
  refine W.ent ((Ent.mk (X := Gr 3 67 none 0 0 []) fun r => .nil).trans (Ent.mk (X := Gs []) fun _ => trivial)) ?_
  refine W.loopH (ι := Cp l) (fun i => i.k ≤ l.length ∧ i.o.map (·.e) = (l.take i.k).map (·.e)) (fun i => [(0, .slice A l.length c), (3, .slice i.A i.o.length i.c), (4, nv i.k)])
    (fun i => [Gs i.o, Gr 3 67 i.A i.o.length i.c (i.o.flatMap encLE), X, D]) (fun i => l.length - i.k) ⟨0, [], none, 0⟩ ⟨Nat.zero_le _, rfl⟩ subs (.refl _) ?_
  rintro ⟨k, o, A1, c1⟩ ⟨hk, ho⟩ ih
  dsimp only at hk ho
  have hol : o.length = k := by have := congrArg List.length ho; simp only [List.length_map, List.length_take] at this; omega
  dsimp only at ih ⊢
  by_cases hlt : k < l.length
  · obtain ⟨x, hx⟩ : ∃ x, l[k]? = some x := ⟨_, List.getElem?_eq_getElem hlt⟩
    have hxm : x ∈ l := List.mem_of_getElem? hx
    have hxd := hd x hxm
    refine W.fact (fun w h => IsA.of (k := k * 3) hX (by exact pick) (by rw [flat_len lenLE]; omega) h) fun hA => ?_
    refine run ?_
    refine W.planT [X] [2005, 2010, 2016] mixed (by rfl) (by kernel_rfl) ?_ picks
    refine run ?_
    refine .ent (Ent.mk (X := Gr 1 5 none 0 0 []) fun r => .nil) ?_
    refine .push (sz := 1) (nn := 0) (m := x.e.data.length) (Src.pick rfl rfl (.tl (.tl .hd)) (hD.at_ hxm) (by simp) rfl (allBc _)) fun A2 c2 => ?_
    simp only [Nat.zero_add, List.nil_append]
    refine run ?_
    refine .lit fun z2 => ?_
    refine run ?_
    refine .push (sz := 3) (m := 1) (Src.pick rfl rfl .hd .own rfl rfl rfl) fun A3 c3 => ?_
    refine run ?_
    have h2 := ih ⟨k + 1, o ++ [⟨x.e, A2, c2⟩], A3, c3⟩ ⟨by dsimp only; omega, by rw [List.take_add_one, hx]; simp [ho]⟩ (by dsimp only; omega)
    simp only [List.length_append, List.length_singleton, List.flatMap_append, List.flatMap_singleton] at h2
    exact .ent ((Picks.sub (a := [Gs o, Gr 1 5 A2 _ c2 _, Gr 3 67 A3 _ c3 _, X, D]) picks).trans (Gs.snoc (x := ⟨x.e, A2, c2⟩))) (.back h2)
  · refine run ?_
    have hkl : k = l.length := by omega
    refine .retE Tryz.func46 ⟨o, A1, c1, rfl, by rw [ho, hkl, List.take_length], rfl⟩
theorem sameLog_t {X D Y E : HP} {A B : Option Addr} {c c' : Nat} {l l' : List LE} (hX : Reads X A (l.flatMap encLE)) (hD : DRead D l) (hY : Reads Y B (l'.flatMap encLE)) (hE : DRead E l') (hl : l.length ≤ 1099511627776) (he : l.map (·.e) = l'.map (·.e)) :
    FnQ Tryz.prog 45 [.slice A l.length c, .slice B l'.length c'].toArray [X, D, Y, E] (.bool true) := by
  refine (Fn.quietD (M := [Rd false A (l.flatMap encLE), Ds l, Rd false B (l'.flatMap encLE), Ds l']) ?_ (fun Q hQ => by
    rcases List.mem_cons.1 hQ with rfl | hQ
    · exact Rd.pers
    rcases List.mem_cons.1 hQ with rfl | hQ
    · exact Ds.pers
    rcases List.mem_cons.1 hQ with rfl | hQ
    · exact Rd.pers
    · rw [List.mem_singleton.1 hQ]; exact Ds.pers)).pre ((Ent.of hX).trans (.cons _ ((Ent.of hD).trans (.cons _ ((Ent.of hY).trans (.cons _ (.of hE)))))))
  have hRX : Reads (Rd false A (l.flatMap encLE)) A (l.flatMap encLE) := .rd
  have hRY : Reads (Rd false B (l'.flatMap encLE)) B (l'.flatMap encLE) := .rd
  have hDX : DRead (Ds l) l := fun _ h => h
  have hDY : DRead (Ds l') l' := fun _ h => h
  have hll : l.length = l'.length := by have := congrArg List.length he; simpa using this
  clear hX hD hY hE
  refine Fn.enter Tryz.func45 rfl (by kernel_rfl) rfl ?_
  refine run ?_
  refine W.loopH (ι := Nat) (fun k => k ≤ l.length) (fun k => [(0, .slice A l.length c), (1, .slice B l'.length c'), (5, nv k)])
    (fun k => [Rd false A (l.flatMap encLE), Ds l, Rd false B (l'.flatMap encLE), Ds l']) (fun k => l.length - k) 0 (Nat.zero_le _) subs (.refl _) ?_
  intro k hk ih
  by_cases hlt : k < l.length
  · obtain ⟨x, hx⟩ : ∃ x, l[k]? = some x := ⟨_, List.getElem?_eq_getElem hlt⟩
    obtain ⟨y, hy⟩ : ∃ y, l'[k]? = some y := ⟨_, List.getElem?_eq_getElem (by omega)⟩
    have hxy : x.e = y.e := by
      have := congrArg (fun m => m[k]?) he
      simpa [hx, hy] using this
    have hxi : x.e.idx = y.e.idx := by rw [hxy]
    have hxt : x.e.term = y.e.term := by rw [hxy]
    refine W.fact (fun w h => IsA.of (k := k * 3) hRX (by exact pick) (by rw [flat_len lenLE]; omega) h) fun hA => ?_
    refine W.fact (fun w h => IsA.of (k := k * 3) hRY (by exact pick) (by rw [flat_len lenLE]; omega) h) fun hB => ?_
    refine run ?_
    refine W.plan [] mixed (by rfl) (by kernel_rfl) ?_
    refine run ?_
    refine RG.take rfl rfl rfl rfl (R.string (l := x.e.data) rfl rfl rfl rfl rfl rfl rfl rfl (hDX.at_ (List.mem_of_getElem? hx)) pick rfl) ?_ rfl
    refine run ?_
    refine RG.take rfl rfl rfl rfl (R.string (l := y.e.data) rfl rfl rfl rfl rfl rfl rfl rfl (hDY.at_ (List.mem_of_getElem? hy)) pick rfl) ?_ rfl
    refine RG.takeP rfl rfl rfl rfl (Q.neStr rfl rfl rfl) ?_
    refine RG.hit 54 rfl (by rw [hxy]; simp : _ = .bool false) ?_
    refine run ?_
    exact .back (ih (k + 1) hlt (by omega))
  · refine run ?_
    exact .retD Tryz.func45
theorem state_n (hs : Sn c s) : Fn Tryz.prog 36 [pt p].toArray [NodI p c s] (fun v L => ∃ A cp, v = .agg (stV s A cp).toArray ∧ L = [NodI p c s, Lg A (s.log.length - s.snap) cp s.snap (s.log.drop s.snap)]) := by
  refine Fn.enter Tryz.func36 rfl (by kernel_rfl) rfl ?_
  refine run ?_
  refine .new fun z => ?_
  refine run ?_
  refine .first (NodI p c s) ?_
  refine .nodI fun h x hh => ?_
  refine .first (LgN h s) ?_
  refine .lg fun les hles => ?_
  have hlen := les_len hles
  rw [List.length_drop] at hlen
  have hln := hh.1
  have hf := hs.fin
  refine W.plan [1020] mixed (by rfl) (by kernel_rfl) ?_
  refine run ?_
  refine RG.take rfl rfl rfl rfl (Q.loadPart (vs := [nv s.term, nv s.vote]) rfl rfl rfl rfl pick rfl rfl) ?_ rfl
  refine run ?_
  have hdat : ∀ y ∈ les, y.e.data.length ≤ 140737488351232 := fun y hy => by
    obtain ⟨k, hk⟩ := List.mem_iff_getElem?.1 hy
    obtain ⟨en, h1, h2⟩ := les_at hles hk
    rw [h2]; exact hs.data en (List.mem_of_mem_drop (List.mem_of_getElem? h1))
  have hC := copied_n (A := h.lA) (c := h.lc) (l := les) (by omega) hdat
  rw [hlen, ← hln] at hC
  refine .callN hC (.trans (Picks.sub (a := [Gr 3 67 h.lA h.ln h.lc (les.flatMap encLE), Gs les]) picks) ((Ent.of fun r hr => hr.rd.lend).trans (.cons _ (.of fun r hr => hr.ds)))) ?_
  rintro v N ⟨l', A2, c2, rfl, h2, rfl⟩
  have hl2 : l'.length = s.log.length - s.snap := by have := congrArg List.length h2; simp at this; omega
  rw [hl2]
  refine run ?_
  refine .ent ((Picks.ent (a := [Gr 3 67 A2 (s.log.length - s.snap) c2 (l'.flatMap encLE), Gs l']) picks).trans (Lg.close (h2.trans hles))) ?_
  refine .ent ((Picks.ent (a := [Gr 3 67 h.lA h.ln h.lc (les.flatMap encLE), Gs les]) picks).trans (Lg.close hles)) ?_
  refine .ent (NodI.shut h h x s s hh rfl picks) ?_
  rw [show h.tS = s.tm s.snap from hh.2]
  exact .retE Tryz.func36 ⟨A2, c2, rfl, rfl⟩ (.r1 .agg)
def progL (c : Cfg) (s : Nd) : List Nat := if s.role = 4 then oth c s else []
def progE (s : Nd) (q : Nat) : List Value := [nv q, nv (s.mt q), nv (s.nx q)]
theorem progress_n (hs : Sn c s) : Fn Tryz.prog 40 [pt p].toArray [NodI p c s] (fun v L => ∃ A cp, v = .slice A (progL c s).length cp ∧ L = [NodI p c s, Gr 3 104 A (progL c s).length cp ((progL c s).flatMap (progE s))]) := by
  have hn := hs.n
  have hol := oth_len (c := c) (s := s) hn.2
  refine Fn.enter Tryz.func40 rfl (by kernel_rfl) rfl ?_
  refine .first (NodI p c s) ?_
  refine .nodI fun h x hh => ?_
  by_cases hr : s.role = 4
  · have e1 : progL c s = oth c s := if_pos hr
    rw [e1]
    refine .first (Rp c h s) ?_
    refine .rp4 hr fun bm bn bh g1 g2 g3 => ?_
    refine run ?_
    refine .callE (others_ok (s := s) (x := x) (p := p) (c := c) (h := h) peersG hn.2) ?_
    rintro v L ⟨OA, oc, rfl, rfl⟩
    refine run ?_
    refine .ent (Ent.mk (X := Gr 3 104 none 0 0 []) fun r => .nil) ?_
    refine W.loopH (ι := Nat × Option Addr × Nat) (fun i => i.1 ≤ (oth c s).length) (fun i => [(0, pt p), (3, .slice i.2.1 i.1 i.2.2), (12, .slice OA (oth c s).length oc), (13, nv (oth c s).length), (14, nv i.1)])
      (fun i => [Gr 1 3 OA (oth c s).length oc ((li (oth c s)).map iv), Gr 3 104 i.2.1 i.1 i.2.2 (((oth c s).take i.1).flatMap (progE s)), Nb true p c h s x, PeersG c h, LgN h s, MI bm s.mt (oth c s), MI bn s.nx (oth c s), MB bh s.hd])
      (fun i => (oth c s).length - i.1) (0, none, 0) (Nat.zero_le _) subs (Picks.sub picks) ?_
    rintro ⟨k, A1, c1⟩ hk ih
    dsimp only at hk ih ⊢
    by_cases hlt : k < (oth c s).length
    · obtain ⟨y, hy⟩ : ∃ y, (oth c s)[k]? = some y := ⟨_, List.getElem?_eq_getElem hlt⟩
      have hym := List.mem_of_getElem? hy
      have hyl := oth_le hym
      refine W.fact (fun w h => IsA.of (k := k) (Reads.gr (sz := 1) (E := 3)) .hd (by simpa using hlt) h) fun hA => ?_
      refine run ?_
      refine .quiet rfl rfl rfl (R.load (v := nv y) rfl rfl rfl rfl (Reads.gr (sz := 1) (E := 3)) pick (by rw [Nat.mul_one]; simp [hy])) ?_
      refine run ?_
      refine W.plan [] mixed (by rfl) (by kernel_rfl) ?_
      refine run ?_
      refine .lookI (b := bm) (f := s.mt) y (by unfold okN; omega) hym ?_ (hx := by rw [← g1]; exact rfl)
      refine run ?_
      refine .lookI (b := bn) (f := s.nx) y (by unfold okN; omega) hym ?_ (hx := by rw [← g2]; exact rfl)
      refine RG.takeP rfl rfl rfl rfl (Q.buildArr rfl rfl rfl rfl rfl) ?_
      refine run ?_
      refine .lit fun z2 => ?_
      refine run ?_
      refine .push (sz := 3) (m := 1) (Src.pick rfl rfl .hd .own rfl rfl rfl) fun A3 c3 => ?_
      refine run ?_
      have h2 := ih (k + 1, A3, c3) hlt (by dsimp only; omega)
      rw [List.take_add_one, hy] at h2
      simp only [Option.toList_some, List.flatMap_append, List.flatMap_singleton] at h2
      exact .back h2
    · have hk : k = (oth c s).length := by omega
      subst hk
      rw [List.take_length]
      refine run ?_
      refine .ent ((Picks.ent (a := [MI bm s.mt (oth c s), MI bn s.nx (oth c s), MB bh s.hd]) picks).trans (Rp.c4 (c := c) (h := h) (s := s) hr g1 g2 g3)) ?_
      refine .ent (NodI.shut h h x s s hh rfl picks) ?_
      exact .retE Tryz.func40 ⟨A1, c1, rfl, rfl⟩
  · have e1 : progL c s = [] := if_neg hr
    rw [e1]
    refine run ?_
    refine .ent (NodI.shut h h x s s hh rfl picks) ?_
    refine .ent (Ent.mk (X := Gr 3 104 none 0 0 []) fun r => .nil) ?_
    exact .retE Tryz.func40 ⟨none, 0, rfl, rfl⟩
end
end Go.SL
namespace Go.SL
open Go.Proofs Go.Proofs.YtocogcgnahbpkaaGreat
open Rs (Nd)
set_option maxRecDepth 10000
def RLg (A : Option Addr) (n c i : Nat) (l : List Rf.Ent) : HP := fun r => ∃ les : List LE, les.map (·.e) = ents i l ∧ Stars [Gr 3 67 A n c (les.flatMap encLE), Ds les] r
theorem RLg.close {A : Option Addr} {n c i : Nat} {l : List Rf.Ent} {les : List LE} {L : List HP} (h : les.map (·.e) = ents i l) : Ent (Gr 3 67 A n c (les.flatMap encLE) :: Ds les :: L) (RLg A n c i l :: L) :=
  (Ent.unstar (l := [_, _])).trans (.of fun _ hr => ⟨les, h, hr⟩)
theorem Sat.rlg {w : World} {A : Option Addr} {n c i : Nat} {l : List Rf.Ent} {L : List HP} (h : Sat w (RLg A n c i l :: L)) : ∃ les : List LE, les.map (·.e) = ents i l ∧ Sat w (Gr 3 67 A n c (les.flatMap encLE) :: Ds les :: L) := by
  obtain ⟨r, a, r1, r2, x, y, z, ⟨les, h1, h2⟩, v⟩ := h
  have : Sat w (Stars [Gr 3 67 A n c (les.flatMap encLE), Ds les] :: L) := ⟨r, a, r1, r2, x, y, z, h2, v⟩
  exact ⟨les, h1, this.ent .star⟩
theorem W.rlg {P : Program} {n' f : Nat} {e : Env} {L : List HP} {R : Fin} {k : List Item} {ds : List Deferred} {A : Option Addr} {n c i : Nat} {l : List Rf.Ent} (h : ∀ les : List LE, les.map (·.e) = ents i l → W P f n' R k e ds (Gr 3 67 A n c (les.flatMap encLE) :: Ds les :: L)) : W P f n' R k e ds (RLg A n c i l :: L) :=
  fun F b cs t w h1 h2 h3 h4 => let ⟨les, e1, e2⟩ := Sat.rlg h4; h les e1 F b cs t w h1 h2 h3 e2
theorem FnQ.rlg {P : Program} {f : Nat} {L : List HP} {ar : Array Value} {v : Value} {A : Option Addr} {n c i : Nat} {l : List Rf.Ent} (h : ∀ les : List LE, les.map (·.e) = ents i l → FnQ P f ar (Gr 3 67 A n c (les.flatMap encLE) :: Ds les :: L) v) (he : Enters P f) : FnQ P f ar (RLg A n c i l :: L) v :=
  ⟨he, fun w hs => let ⟨les, e1, e2⟩ := Sat.rlg hs; (h les e1).2 w e2⟩
theorem ds_nil {r : Res} : Ds [] r := fun _ h => nomatch h
theorem RLg.nil {i : Nat} {r : Res} : RLg none 0 0 i [] r := ⟨[], rfl, ⟨r, fun _ => none, .refl _, fun _ _ _ h => (nomatch h), fun _ _ _ _ _ _ h => (nomatch h), .nil, fun _ => none, fun _ => none, .refl _, .refl _, fun _ _ _ _ _ h => (nomatch h), ds_nil, trivial⟩⟩
theorem Ds.join {l m : List LE} {L : List HP} : Ent (Ds l :: Ds m :: L) (Ds (l ++ m) :: L) := (Ent.unstar (l := [_, _])).trans (.of fun r ⟨r1, r2, a, b, _, d1, s1, s2, a', _, _, d', _⟩ => fun y hy => by
  rcases List.mem_append.1 hy with hy | hy
  · exact (d1 y hy).le a
  · exact ((d' y hy).le a').le b)
theorem Ds.snoc {D : HP} {l : List LE} {x : LE} {L : List HP} (hD : Reads D x.A (x.e.data.map bc)) : Ent (Ds l :: D :: L) (Ds (l ++ [x]) :: L) :=
  (Ent.cons _ (Ent.of (Y := Ds [x]) fun r hr y hy => by rw [List.mem_singleton.1 hy]; exact hD r hr)).trans Ds.join
theorem Res.sep_shsh (r : Res) : r.sh.sep r.sh := fun _ _ _ _ _ h k => ⟨(Res.sh_at h).1, (Res.sh_at k).1⟩
theorem Ent.dup {X : HP} {L : List HP} (hp : Pers X) : Ent (X :: L) (X :: X :: L) := fun r ⟨r1, r2, a, b, c, d, e⟩ =>
  have h1 : r1.sh.le r := (Res.sh_le r1).trans a
  have hs : r1.sh.sep r2 := c.le (Res.sh_le r1) (.refl _)
  ⟨r1.sh, r1.sh.join r2, h1, Res.join_le h1 b, (Res.sep_join (Res.sep_shsh r1).symm hs.symm).symm, hp r1 d, r1.sh, r2, Res.le_join _ _, Res.le_join' h1 b hs, hs, hp r1 d, e⟩
def REs : List LM → HP
  | [] => fun _ => True
  | y :: l => Stars [RLg y.A y.m.es.length y.c y.m.idx y.m.es, REs l]
theorem REs.snoc {y : LM} : ∀ {l : List LM} {L : List HP}, Ent (REs l :: RLg y.A y.m.es.length y.c y.m.idx y.m.es :: L) (REs (l ++ [y]) :: L)
  | [], L => ((Ent.drop _).trans (Ent.mk (X := REs []) fun _ => trivial)).trans (((Pick.tl Pick.hd).ent).trans (Ent.unstar (l := [_, _])))
  | z :: l, L => by
    refine (Ent.star (l := [_, _]) (m := _ :: L)).trans ?_
    refine (Ent.cons _ (REs.snoc (l := l) (L := L))).trans ?_
    exact Ent.unstar (l := [_, _]) (m := L)
def RMs (A : Option Addr) (n c : Nat) (ms : List Rf.Msg) : HP := fun r => ∃ ys : List LM, ys.map (·.m) = ms ∧ Stars [Gr 10 59 A n c (ys.flatMap encL), REs ys] r
theorem RMs.close {A : Option Addr} {n c : Nat} {ms : List Rf.Msg} {ys : List LM} {L : List HP} (h : ys.map (·.m) = ms) : Ent (Gr 10 59 A n c (ys.flatMap encL) :: REs ys :: L) (RMs A n c ms :: L) :=
  (Ent.unstar (l := [_, _])).trans (.of fun _ hr => ⟨ys, h, hr⟩)
theorem RMs.nil {r : Res} : RMs none 0 0 [] r := ⟨[], rfl, ⟨r, fun _ => none, .refl _, fun _ _ _ h => (nomatch h), fun _ _ _ _ _ _ h => (nomatch h), .nil, fun _ => none, fun _ => none, .refl _, .refl _, fun _ _ _ _ _ h => (nomatch h), trivial, trivial⟩⟩
theorem W.rms {P : Program} {n' f : Nat} {e : Env} {L : List HP} {R : Fin} {k : List Item} {ds : List Deferred} {A : Option Addr} {n c : Nat} {ms : List Rf.Msg} (h : ∀ ys : List LM, ys.map (·.m) = ms → W P f n' R k e ds (Gr 10 59 A n c (ys.flatMap encL) :: REs ys :: L)) : W P f n' R k e ds (RMs A n c ms :: L) :=
  fun F b cs t w h1 h2 h3 h4 => by
    obtain ⟨r, a, r1, r2, x, y, z, ⟨ys, g1, g2⟩, v⟩ := h4
    have : Sat w (Stars [Gr 10 59 A n c (ys.flatMap encL), REs ys] :: (L ++ [F])) := ⟨r, a, r1, r2, x, y, z, g2, v⟩
    exact h ys g1 F b cs t w h1 h2 h3 (this.ent .star)
structure RW where
  pA : Option Addr
  pc : Nat
  lA : Option Addr
  lc : Nat
  ln : Nat
  tS : Nat
  oA : Option Addr
  oc : Nat
  gA : Option Addr
  gc : Nat
  rA : Option Addr
  rc : Nat
  mA : Option Addr
  mc : Nat
  sA : Option Addr
  sc : Nat
structure RX where
  mn : Nat := 0
  sn : Nat := 0
  from_ : Nat := 0
  first : Nat := 0
  last : Nat := 0
def rcells (c : Cfg) (h : RW) (s : Nd) (x : RX) : List Value :=
  [nv s.id, .slice h.pA c.n h.pc, nv c.least, nv c.most, nv c.beat, nv c.batch, nv s.term, nv s.vote, .slice h.lA h.ln h.lc, nv s.snap, nv h.tS, nv s.commit, nv s.role, nv s.leader, nv s.elapsed, nv s.timeout, nv s.beat, nv s.heir,
   .slice h.oA (oth c s).length h.oc, .slice h.gA s.gr.length h.gc, .slice h.rA s.rf.length h.rc, .slice h.mA x.mn h.mc, .slice h.sA x.sn h.sc, nv x.from_, nv x.first, nv x.last]
abbrev Rb (q : Bool) (p : Nat) (c : Cfg) (h : RW) (s : Nd) (x : RX) : HP := Blk q p (rcells c h s x) 93
structure Rm (c : Cfg) (h : RW) (s : Nd) : Prop where
  sn : Sn c s
  ln : h.ln = s.log.length - s.snap
  tS : h.tS = s.tm s.snap
def peerE (s : Nd) (q : Nat) : List Value := [nv q, nv (s.mt q), nv (s.nx q), .bool (decide (q ∈ s.hd))]
theorem peerE_len {s : Nd} (q : Nat) : (peerE s q).length = 4 := rfl
abbrev OthG (c : Cfg) (h : RW) (s : Nd) : HP := Gr 4 136 h.oA (oth c s).length h.oc ((oth c s).flatMap (peerE s))
abbrev RLgN (h : RW) (s : Nd) : HP := RLg h.lA h.ln h.lc s.snap (s.log.drop s.snap)
attribute [local irreducible] W RS RG RD Fn FnQ OpS QOp Own Sat Rd Gr Mp Rg Lg Ms Es Nod Rp NodI RLg RMs REs
section
variable {c : Cfg} {h : RW} {s : Nd} {x : RX} {p : Nat} {q : Bool} {d : Int}
theorem out_f {a lo hi : Int} (h1 : lo ≤ a) (h2 : a ≤ hi) : FnQ Tryz.prog 112 [iv a, iv lo, iv hi].toArray [] (.bool false) := by
  refine Fn.quietD (M := []) ?_ (fun Q hQ => nomatch hQ)
  refine Fn.enter Tryz.func112 rfl (by kernel_rfl) rfl ?_
  refine run ?_
  exact .retD Tryz.func112
theorem out_t {a lo hi : Int} (h1 : a < lo ∨ hi < a) : FnQ Tryz.prog 112 [iv a, iv lo, iv hi].toArray [] (.bool true) := by
  refine Fn.quietD (M := []) ?_ (fun Q hQ => nomatch hQ)
  refine Fn.enter Tryz.func112 rfl (by kernel_rfl) rfl ?_
  by_cases h2 : a < lo
  · refine run ?_
    exact .retD Tryz.func112
  · refine run ?_
    exact .retD Tryz.func112
theorem rhas_q {X : HP} {A : Option Addr} {cp : Nat} {l : List Int} {v : Int} (hX : Reads X A (l.map iv)) (hl : l.length ≤ 1099511627776) : FnQ Tryz.prog 113 [.slice A l.length cp, iv v].toArray [X] (.bool (decide (v ∈ l))) := by
  refine (Fn.quietD (M := [Rd false A (l.map iv)]) ?_ pers3).pre (.of hX)
  have hR : Reads (Rd false A (l.map iv)) A (l.map iv) := Reads.rd
  refine Fn.enter Tryz.func113 rfl (by kernel_rfl) rfl ?_
  refine run ?_
  refine W.loopH (ι := Nat) (fun k => k ≤ l.length ∧ ∀ j, j < k → l[j]? ≠ some v) (fun k => [(0, .slice A l.length cp), (1, iv v), (5, iv k)])
    (fun k => [Rd false A (l.map iv)]) (fun k => l.length - k) 0 ⟨Nat.zero_le _, fun _ h => nomatch h⟩ subs (.refl _) ?_
  rintro k ⟨hk, hn⟩ ih
  by_cases hlt : k < l.length
  · have hx : l[k]? = some l[k] := List.getElem?_eq_getElem hlt
    generalize l[k] = y at hx
    refine W.fact (fun w h => IsA.of (k := k) hR .hd (by simpa using hlt) h) fun hA => ?_
    by_cases hy : y = v
    · subst hy
      rw [decide_eq_true (List.mem_of_getElem? hx)]
      refine run ?_
      refine .quiet rfl rfl rfl (R.load (v := iv y) rfl rfl rfl rfl hR pick (by rw [Nat.mul_one]; simp [hx])) ?_
      refine run ?_
      exact .retD Tryz.func113
    · refine run ?_
      refine .quiet rfl rfl rfl (R.load (v := iv y) rfl rfl rfl rfl hR pick (by rw [Nat.mul_one]; simp [hx])) ?_
      refine run ?_
      exact .back (ih (k + 1) ⟨by omega, fun j hj => by
        by_cases h : j = k
        · subst h; rw [hx]; intro e; injection e with e; exact hy e
        · exact hn j (by omega)⟩ (by omega))
  · rw [decide_eq_false fun hm => by obtain ⟨j, h⟩ := List.mem_iff_getElem?.1 hm; exact hn j (by have := (List.getElem?_eq_some_iff.1 h).1; omega) h]
    refine run ?_
    exact .retD Tryz.func113
theorem rend_q (hs : Rm c h s) : FnQ Tryz.prog 70 [pt p].toArray [Rb q p c h s x] (nv s.log.length) := by
  refine (Fn.quietD (M := [Rb false p c h s x]) ?_ pers1).pre lend1
  have := hs.sn.fin
  have hln := hs.ln
  refine Fn.enter Tryz.func70 rfl (by kernel_rfl) rfl ?_
  refine run ?_
  refine W.plan [] mixed (by rfl) (by kernel_rfl) ?_
  refine run ?_
  refine W.hit 2 rfl (by congr 1; omega : _ = nv s.log.length) ?_
  exact .retD Tryz.func70
theorem many_q (k : Nat) (hk : k ≤ 1099511627776) : FnQ Tryz.prog 116 [pt p, iv k].toArray [Rb q p c h s x] (.bool (Rs.maj c k)) := by
  refine (Fn.quietD (M := [Rb false p c h s x]) ?_ pers1).pre lend1
  refine Fn.enter Tryz.func116 rfl (by kernel_rfl) rfl ?_
  refine run ?_
  refine RS.quiet rfl rfl rfl (Q.mul rfl rfl rfl (by omega)) ?_
  refine run ?_
  refine W.hit 4 rfl (by unfold Rs.maj; congr 1; rw [decide_eq_decide]; omega : _ = .bool (Rs.maj c k)) ?_
  exact .retD Tryz.func116
theorem rstuck_q (hs : Rm c h s) : FnQ Tryz.prog 129 [pt p].toArray [Rb q p c h s x] (.bool (Rs.stuck s)) := by
  refine (Fn.quietD (M := [Rb false p c h s x]) ?_ pers1).pre lend1
  have := hs.sn.fin
  have ht := hs.sn.term
  have hln := hs.ln
  have hE : FnQ Tryz.prog 70 [pt p].toArray [Rb false p c h s x] (nv s.log.length) := rend_q hs
  have hst : Rs.stuck s = (s.term == 1099511627776 || s.log.length == 1099511627776 || s.log.length - s.snap == 65536) := rfl
  refine Fn.enter Tryz.func129 rfl (by kernel_rfl) rfl ?_
  by_cases h0 : s.term = 1099511627776
  · refine run ?_
    refine W.hit 2 rfl (by rw [hst]; simp [h0] : _ = .bool (Rs.stuck s)) ?_
    exact .retD Tryz.func129
  · by_cases h1 : s.log.length = 1099511627776
    · refine run ?_
      refine .callQ hE ?_
      refine run ?_
      refine W.hit 2 rfl (by rw [hst]; simp [h1] : _ = .bool (Rs.stuck s)) ?_
      exact .retD Tryz.func129
    · refine run ?_
      refine .callQ hE ?_
      by_cases h2 : s.log.length - s.snap = 65536
      · refine run ?_
        refine W.hit 2 rfl (by rw [hst]; simp [h2] : _ = .bool (Rs.stuck s)) ?_
        exact .retD Tryz.func129
      · refine run ?_
        refine W.hit 2 rfl (by rw [hst]; simp [h0, h1, h2] : _ = .bool (Rs.stuck s)) ?_
        exact .retD Tryz.func129
theorem changed_ok {i : Nat} : Fn Tryz.prog 154 [pt p, iv i].toArray [Rb true p c h s x] (Det (.tuple #[]) [Rb true p c h s { x with from_ := tf x.from_ i }]) := by
  unfold tf
  refine Fn.enter Tryz.func154 rfl (by kernel_rfl) rfl ?_
  by_cases h0 : x.from_ = 0
  · rw [if_pos (.inl h0)]
    refine run ?_
    exact .doneD Tryz.func154
  · by_cases h1 : i < x.from_
    · rw [if_pos (.inr h1)]
      refine run ?_
      exact .doneD Tryz.func154
    · rw [if_neg (by omega)]
      refine run ?_
      exact .doneD Tryz.func154
theorem drawn_q (hc : 1 ≤ c.beat ∧ c.beat < c.least ∧ c.least ≤ c.most ∧ c.most ≤ 1000000 ∧ 1 ≤ c.batch ∧ c.batch ≤ 64) : FnQ Tryz.prog 85 [pt p, iv d].toArray [Rb q p c h s x] (nv (Rs.rnd c d)) := by
  refine (Fn.quietD (M := [Rb false p c h s x]) ?_ pers1).pre lend1
  have hM : (0 : Int) < c.most - c.least + 1 := by omega
  have hm := Int.tmod_lt_of_pos d hM
  have hm' := Int.lt_tmod_of_pos d hM
  have h1 := Int.emod_nonneg d (show (c.most - c.least + 1 : Int) ≠ 0 by omega)
  have e2 : d % ((c.most : Int) - c.least + 1) = if d.tmod (c.most - c.least + 1) < 0 then d.tmod (c.most - c.least + 1) + (c.most - c.least + 1) else d.tmod (c.most - c.least + 1) := by
    have h3 := Int.mul_tdiv_add_tmod d (c.most - c.least + 1)
    have h4 : d % ((c.most : Int) - c.least + 1) = (d.tmod (c.most - c.least + 1)) % (c.most - c.least + 1) := by
      conv => lhs; rw [← h3]
      rw [Int.add_comm, Int.add_mul_emod_self_left]
    rw [h4]
    split
    · rw [← Int.add_emod_right, Int.emod_eq_of_lt (by omega) (by omega)]
    · rw [Int.emod_eq_of_lt (by omega) (by omega)]
  have hr : ((Rs.rnd c d : Nat) : Int) = c.least + d % ((c.most : Int) - c.least + 1) := by unfold Rs.rnd; have := Int.toNat_of_nonneg h1; omega
  refine Fn.enter Tryz.func85 rfl (by kernel_rfl) rfl ?_
  refine run ?_
  refine W.plan [] mixed (by rfl) (by kernel_rfl) ?_
  refine run ?_
  refine RS.quiet rfl rfl rfl (Q.rem rfl rfl rfl (by omega)) ?_
  by_cases h0 : d.tmod (c.most - c.least + 1) < 0
  · rw [if_pos h0] at e2
    refine run ?_
    refine W.hit 4 rfl (by congr 1; omega : _ = nv (Rs.rnd c d)) ?_
    exact .retD Tryz.func85
  · rw [if_neg h0] at e2
    refine run ?_
    refine W.hit 4 rfl (by congr 1; omega : _ = nv (Rs.rnd c d)) ?_
    exact .retD Tryz.func85
theorem rrest_ok (hc : 1 ≤ c.beat ∧ c.beat < c.least ∧ c.least ≤ c.most ∧ c.most ≤ 1000000 ∧ 1 ≤ c.batch ∧ c.batch ≤ 64) : Fn Tryz.prog 150 [pt p, iv d].toArray [Rb true p c h s x] (Det (.tuple #[]) [Rb true p c h (Rs.rest c d s) x]) := by
  refine Fn.enter Tryz.func150 rfl (by kernel_rfl) rfl ?_
  refine run ?_
  refine .callQ (drawn_q (c := c) (h := h) (s := { s with elapsed := 0 }) (x := x) (p := p) (q := true) hc) ?_
  refine run ?_
  exact .doneD Tryz.func150
theorem rfollow_ok (hs : Sn c s) {term leader : Nat} : Fn Tryz.prog 117 [pt p, iv term, iv leader, iv d].toArray [Rb true p c h s x] (Det (.tuple #[]) [Rb true p c h (Rs.follow c d term leader s) x]) := by
  refine Fn.enter Tryz.func117 rfl (by kernel_rfl) rfl ?_
  by_cases h0 : s.term < term
  · have e : Rs.follow c d term leader s = Rs.rest c d { s with role := 1, term := term, vote := 0, leader := leader, heir := 0 } := by unfold Rs.follow; rw [if_pos h0, Nat.max_eq_right (by omega)]
    rw [e]
    refine run ?_
    refine .callD (rrest_ok (c := c) (h := h) (x := x) (s := { s with role := 1, term := term, vote := 0, leader := leader, heir := 0 }) hs.cf) ?_
    refine run ?_
    exact .doneD Tryz.func117
  · have e : Rs.follow c d term leader s = Rs.rest c d { s with role := 1, leader := leader, heir := 0 } := by unfold Rs.follow; rw [if_neg h0, Nat.max_eq_left (by omega)]
    rw [e]
    refine run ?_
    refine .callD (rrest_ok (c := c) (h := h) (x := x) (s := { s with role := 1, leader := leader, heir := 0 }) hs.cf) ?_
    refine run ?_
    exact .doneD Tryz.func117
end
end Go.SL
