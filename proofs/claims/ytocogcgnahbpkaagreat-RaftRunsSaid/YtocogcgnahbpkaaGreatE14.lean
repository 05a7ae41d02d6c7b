/-
  A part of the proof of what E53 says at its head.
-/
import Derived.Test.YtocogcgnahbpkaaGreatE13
namespace Go.SL
open Go.Proofs Go.Proofs.YtocogcgnahbpkaaGreat
open Rs (Nd)
attribute [local irreducible] W RS RG RD Fn FnQ OpS QOp Own Sat Rd Gr Mp Rg Lg Ms Es
set_option maxRecDepth 10000
section
variable {XP : HP} {c : Cfg} {h : HW} {s : Nd} {x : EX} {p : Nat} {q : Bool} {m : Rf.Msg} {A : Option Addr} {cp : Nat} {ms : List Rf.Msg}
abbrev LgN (h : HW) (s : Nd) : HP := Lg h.lA h.ln h.lc s.snap (s.log.drop s.snap)
abbrev oth (c : Cfg) (s : Nd) : List Nat := Rs.others c s.id
def cnt (l : List (Nat × Nat)) (i : Nat) : Nat := (l.filter fun p => i ≤ p.2).length
theorem cnt_perm {l m : List (Nat × Nat)} {i : Nat} (h : l.Perm m) : cnt l i = cnt m i := (h.filter _).length_eq
theorem cnt_all {i : Nat} : 1 + cnt (mi s.mt (oth c s)) i = Rs.have_ c s i := by
  unfold cnt mi Rs.have_; rw [List.filter_map, List.length_map]; rfl
theorem oth_len (hn : c.n ≤ 5) : (oth c s).length ≤ 5 := by unfold oth Rs.others; exact Nat.le_trans (List.length_filter_le ..) (by simpa using hn)
theorem Rs.have_le (hn : c.n ≤ 5) (i : Nat) : Rs.have_ c s i ≤ 6 := by
  unfold Rs.have_
  have := List.length_filter_le (fun p => decide (i ≤ s.mt p)) (Rs.others c s.id)
  have h2 : (Rs.others c s.id).length ≤ 5 := oth_len (c := c) (s := s) hn
  omega
theorem count_ok (hs : Sm c h s) {b : Nat} (hb : h.mt = some b) : Fn Tryz.prog 105 [pt p].toArray [Nb true p c h s x, LgN h s, MI b s.mt (oth c s)]
    (Det (.tuple #[]) [Nb true p c h (Rs.count c s) x, LgN h s, MI b s.mt (oth c s)]) := by
  have hf := hs.fin
  refine Fn.enter Tryz.func105 rfl (by kernel_rfl) rfl ?_
  refine run ?_
  refine .callQ (end_q hs) ?_
  refine run ?_
  refine W.loopH (ι := Nat) (fun i => i ≤ s.log.length ∧ Rs.countFrom c s s.log.length = Rs.countFrom c s i) (fun i => [(0, pt p), (2, nv i)])
    (fun i => [Nb true p c h s x, LgN h s, MI b s.mt (oth c s)]) (fun i => i) s.log.length ⟨Nat.le_refl _, rfl⟩ subs (.refl _) ?_
  rintro i ⟨hi, hc⟩ ih
  have stop : Rs.countFrom c s s.log.length = s.commit → Rs.count c s = s := fun e => by unfold Rs.count Rs.Nd.fin; rw [e]
  by_cases h0 : s.commit < i
  · obtain ⟨j, rfl⟩ : ∃ j, i = j + 1 := ⟨i - 1, by omega⟩
    rw [Rs.countFrom, if_neg (by omega)] at hc
    by_cases h1 : s.tm (j + 1) = s.term
    · rw [if_pos h1] at hc
      refine run ?_
      refine W.plan [9] mixed (by rfl) (by kernel_rfl) ?_
      refine run ?_
      refine .callQ (term_q hs (i := j + 1) (by omega)) ?_
      refine run ?_
      rw [hb]
      refine .any rfl rfl rfl (O.range rfl rfl rfl rfl pick) ?_
      rintro v L ⟨z, rfl, rfl⟩
      refine run ?_
      refine W.loopH (ι := Nat × List (Nat × Nat) × Option (Nat × Nat)) (fun i => i.1 + cnt i.2.1 (j + 1) = Rs.have_ c s (j + 1)) (fun i => [(0, pt p), (2, nv (j + 1)), (3, nv i.1), (31, pt z)])
        (fun i => [Rg Tryz.prog 3 nv nv b z (mi s.mt (oth c s)) i.2.1 i.2.2, Nb true p c h s x, LgN h s]) (fun i => i.2.1.length) (1, mi s.mt (oth c s), none) cnt_all subs (Picks.sub picks) ?_
      rintro ⟨k, left, cur⟩ hk ih2
      dsimp only at hk ih2 ⊢
      have hh := Rs.have_le (c := c) (s := s) hs.n.2 (j + 1)
      refine run ?_
      refine .any rfl rfl rfl (O.next rfl rfl pick) ?_
      rintro v L (⟨rfl, rfl, rfl⟩ | ⟨⟨p1, p2⟩, left', hp, rfl, rfl⟩)
      · refine run ?_
        have hk : k = Rs.have_ c s (j + 1) := by simpa [cnt] using hk
        refine .callQ (maj_q k (by omega)) ?_
        refine .ent Rg.done ?_
        rw [hk]
        cases hm : Rs.maj c (Rs.have_ c s (j + 1)) with
        | true =>
          rw [hm, if_pos rfl] at hc
          have e : Rs.count c s = { s with commit := j + 1 } := by unfold Rs.count Rs.Nd.fin; rw [hc]
          rw [e]
          refine run ?_
          exact .retD Tryz.func105
        | false =>
          rw [hm, if_neg (by simp)] at hc
          refine run ?_
          refine W.hit 2 rfl (by congr 1; omega : _ = nv j) ?_
          exact .back (ih j ⟨by omega, hc⟩ (by omega))
      · have hp2 := cnt_perm (i := j + 1) hp
        have hl := hp.length_eq
        by_cases h2 : j + 1 ≤ p2
        · have e : cnt ((p1, p2) :: left') (j + 1) = 1 + cnt left' (j + 1) := by unfold cnt; rw [List.filter_cons_of_pos (by simpa using h2), List.length_cons]; omega
          refine run ?_
          refine .quiet rfl rfl rfl (Q.entry rfl rfl pick) ?_
          refine run ?_
          exact .back (ih2 (k + 1, left', some (p1, p2)) (by dsimp only; omega) (by simp at hl ⊢; omega))
        · have e : cnt ((p1, p2) :: left') (j + 1) = cnt left' (j + 1) := by unfold cnt; rw [List.filter_cons_of_neg (by simpa using h2)]
          refine run ?_
          refine .quiet rfl rfl rfl (Q.entry rfl rfl pick) ?_
          refine run ?_
          exact .back (ih2 (k, left', some (p1, p2)) (by dsimp only; omega) (by simp at hl ⊢; omega))
    · rw [if_neg h1] at hc
      refine run ?_
      refine W.plan [9] mixed (by rfl) (by kernel_rfl) ?_
      refine run ?_
      refine .callQ (term_q hs (i := j + 1) (by omega)) ?_
      refine run ?_
      rw [stop hc]
      exact .doneD Tryz.func105
  · have hc : Rs.countFrom c s s.log.length = s.commit := by
      rw [hc]
      cases i with
      | zero => rfl
      | succ j => rw [Rs.countFrom, if_pos (by omega)]
    refine run ?_
    refine W.plan [9] mixed (by rfl) (by kernel_rfl) ?_
    refine run ?_
    rw [stop hc]
    exact .doneD Tryz.func105
theorem ents_drop : ∀ (k i : Nat) (l : List Rf.Ent), (ents i l).drop k = ents (i + k) (l.drop k)
  | 0, _, _ => rfl
  | _ + 1, _, [] => rfl
  | k + 1, i, e :: l => by rw [ents, List.drop_succ_cons, List.drop_succ_cons, ents_drop k (i + 1) l, show i + 1 + k = i + (k + 1) by omega]
theorem ents_take : ∀ (k i : Nat) (l : List Rf.Ent), (ents i l).take k = ents i (l.take k)
  | 0, _, _ => rfl
  | _ + 1, _, [] => rfl
  | k + 1, i, e :: l => by rw [ents, List.take_succ_cons, List.take_succ_cons, ents, ents_take k (i + 1) l]
def sk (ms : List Rf.Msg) : List Nat := ms.foldl (fun l m => if m.kind = 7 then Rs.put l m.dst else l) []
theorem sk_snoc {m : Rf.Msg} : sk (ms ++ [m]) = if m.kind = 7 then Rs.put (sk ms) m.dst else sk ms := by unfold sk; rw [List.foldl_append]; rfl
def Ld (c : Cfg) (s : Nd) : Prop := ∀ p ∈ oth c s, 1 ≤ s.nx p ∧ s.nx p ≤ s.log.length + 1 ∧ s.mt p ≤ s.log.length
theorem oth_le {c : Cfg} {s : Nd} {p : Nat} (h : p ∈ oth c s) : 1 ≤ p ∧ p ≤ c.n ∧ p ≠ s.id := by
  unfold oth Rs.others at h
  rw [List.mem_filter, List.mem_range'_1] at h
  have := h.2
  simp at this
  omega
theorem sendTo_ok (hs : Sm c h s) (hb : x.mn ≤ 1000) {bn bs to : Nat} (hbn : h.nx = some bn) (hbs : h.sn = some bs) (hto : to ∈ oth c s) (hnx : 1 ≤ s.nx to ∧ s.nx to ≤ s.log.length + 1) :
    Fn Tryz.prog 110 [pt p, iv to].toArray [Nb true p c h s x, LgN h s, MI bn s.nx (oth c s), MB bs (sk ms), Ms h.mA x.mn h.mc ms]
    (fun v M => v = .tuple #[] ∧ ∃ A' c', M = [Nb true p c { h with mA := A', mc := c' } s { x with mn := x.mn + 1 }, LgN h s, MI bn s.nx (oth c s), MB bs (sk (ms ++ [Rs.app c s to])), Ms A' (x.mn + 1) c' (ms ++ [Rs.app c s to])]) := by
  have hf := hs.fin
  have hln := hs.ln
  have hcf := hs.cf
  have htl := oth_le hto
  have hcn := hs.n
  refine Fn.enter Tryz.func110 rfl (by kernel_rfl) rfl ?_
  refine run ?_
  refine .lookI (b := bn) to (by unfold okN; omega) hto ?_ (hx := by rw [← hbn]; exact rfl)
  by_cases h0 : s.nx to ≤ s.snap
  · refine run ?_
    refine .putB (b := bs) to (by unfold okN; omega) ?_ (hx := by rw [← hbs]; exact rfl)
    refine run ?_
    refine W.plan [] mixed (by rfl) (by kernel_rfl) ?_
    refine run ?_
    refine .ent (Ent.mk (X := Lg none 0 0 s.snap []) fun r => Lg.nil) ?_
    refine .callE (send_ok (c := c) (h := h) (x := x) (ms := ms) (s := s) (to := to) (m := { kind := 7, src := 0, dst := 0, term := 0, idx := s.snap, lt := s.tm s.snap, commit := s.commit }) (A := none) (cp := 0) (by omega)) ?_ (hv := by rw [← hs.tS]; exact rfl)
    rintro v M ⟨rfl, A', c', rfl⟩
    have e : sent s to { kind := 7, src := 0, dst := 0, term := 0, idx := s.snap, lt := s.tm s.snap, commit := s.commit } = Rs.app c s to := by unfold sent Rs.app; rw [if_pos h0]; rfl
    rw [e]
    have e2 : Rs.put (sk ms) to = sk (ms ++ [Rs.app c s to]) := by rw [sk_snoc]; unfold Rs.app; rw [if_pos h0]; rfl
    rw [e2]
    refine run ?_
    exact .retE Tryz.func110 ⟨rfl, A', c', rfl⟩
  · have e2 : sk ms = sk (ms ++ [Rs.app c s to]) := by rw [sk_snoc]; unfold Rs.app; rw [if_neg h0]; rfl
    rw [← e2]
    refine run ?_
    refine .ent (Picks.ent (a := [LgN h s]) picks) ?_
    refine .lg fun les hles => ?_
    have hlen := les_len hles
    rw [List.length_drop] at hlen
    refine W.fact (fun w h => Gr.cap h) fun hcap => ?_
    refine W.plan [] mixed (by rfl) (by kernel_rfl) ?_
    refine run ?_
    refine RG.hit 49 rfl (by congr 1; omega : _ = nv (s.nx to - s.snap - 1)) ?_
    refine RG.takeP rfl rfl rfl rfl (Q.sliceFrom (lo := s.nx to - s.snap - 1) rfl rfl rfl rfl rfl rfl (by omega)) ?_
    refine run ?_
    generalize hj : s.nx to - s.snap - 1 = j
    refine RS.hit 59 rfl (by congr 1; omega : _ = nv (min (h.ln - j) c.batch)) ?_
    refine .quiet rfl rfl rfl (Q.sliceTo (hi := min (h.ln - j) c.batch) rfl rfl rfl rfl rfl rfl (by omega)) ?_
    generalize hA : (if h.lc = j then h.lA else adr h.lA (j * 3)) = A1
    have hsub : ((les.drop j).take c.batch).length = min (h.ln - j) c.batch := by rw [List.length_take, List.length_drop]; omega
    have hrd : ∀ r, Gr 3 67 h.lA h.ln h.lc (les.flatMap encLE) r → Rd false A1 (((les.drop j).take c.batch).flatMap encLE) r := fun r hr => by
      rw [← hA]
      split
      · rw [List.drop_eq_nil_of_le (by omega), List.take_nil]; exact Rd.nil
      · exact Rd.part j c.batch hr.rd.lend
    generalize hsb : (les.drop j).take c.batch = sub at hsub hrd
    rw [← hsub]
    have hsubm : ∀ y ∈ sub, y ∈ les := fun y hy => by rw [← hsb] at hy; exact List.mem_of_mem_drop (List.mem_of_mem_take hy)
    refine run ?_
    refine W.plan [7, 1013] mixed (by rfl) (by kernel_rfl) ?_
    refine run ?_
    refine RG.hit 64 rfl (by congr 1; omega : _ = nv (s.nx to - 1)) ?_
    refine RG.hit 67 rfl (by congr 1; omega : _ = nv (s.nx to - 1)) ?_
    refine .callQ (FnQ.pre (term_r hs hles (i := s.nx to - 1) (by omega)) (lend2 (q := true) (X := Gr 3 67 h.lA h.ln h.lc (les.flatMap encLE)) .gr)) ?_
    refine run ?_
    have hes : sub.map (·.e) = ents (s.nx to - 1) ((s.log.drop (s.nx to - 1)).take c.batch) := by
      have e1 : s.nx to - 1 = s.snap + j := by omega
      rw [e1, ← hsb, List.map_take, List.map_drop, hles, ents_drop, ents_take, List.drop_drop]
    refine .callN (copied_n (A := A1) (l := sub) (by omega) fun y hy => ?_) (.trans (Picks.sub (a := [Gr 3 67 h.lA h.ln h.lc (les.flatMap encLE), Gs les]) picks) ((Ent.of hrd).trans (.cons _ (.of fun r hr => hr.ds.sub hsubm)))) ?_
    · obtain ⟨k, hk⟩ := List.mem_iff_getElem?.1 (hsubm y hy)
      obtain ⟨en, h1, h2⟩ := les_at hles hk
      rw [h2]; exact hs.data en (List.mem_of_mem_drop (List.mem_of_getElem? h1))
    rintro v N ⟨l', A2, c2, rfl, h2, rfl⟩
    rw [hes] at h2
    have hl2 := les_len h2
    refine run ?_
    refine .ent ((Picks.ent (a := [Gr 3 67 A2 l'.length c2 (l'.flatMap encLE), Gs l']) picks).trans (Lg.close h2)) ?_
    refine .ent ((Picks.ent (a := [Gr 3 67 h.lA h.ln h.lc (les.flatMap encLE), Gs les]) picks).trans (Lg.close hles)) ?_
    rw [hl2]
    refine .callE (send_ok (c := c) (h := h) (x := x) (ms := ms) (s := s) (to := to) (m := { kind := 5, src := 0, dst := 0, term := 0, idx := s.nx to - 1, lt := s.tm (s.nx to - 1), commit := s.commit, es := (s.log.drop (s.nx to - 1)).take c.batch }) (A := A2) (cp := c2) (by omega)) ?_ 
    rintro v M ⟨rfl, A', c', rfl⟩
    have e : sent s to { kind := 5, src := 0, dst := 0, term := 0, idx := s.nx to - 1, lt := s.tm (s.nx to - 1), commit := s.commit, es := (s.log.drop (s.nx to - 1)).take c.batch } = Rs.app c s to := by unfold sent Rs.app; rw [if_neg h0]; rfl
    rw [e]
    refine run ?_
    exact .doneE Tryz.func110 ⟨rfl, A', c', rfl⟩
end
end Go.SL
namespace Go.SL
open Go.Proofs Go.Proofs.YtocogcgnahbpkaaGreat
open Rs (Nd)
attribute [local irreducible] W RS RG RD Fn FnQ OpS QOp Own Sat Rd Gr Mp Rg Lg Ms Es
set_option maxRecDepth 10000
section
variable {XP : HP} {c : Cfg} {h : HW} {s : Nd} {x : EX} {p : Nat} {q : Bool} {m : Rf.Msg} {A : Option Addr} {cp : Nat} {ms : List Rf.Msg}
theorem Sm.set {h' : HW} (hs : Sm c h s) (e1 : h'.ln = h.ln) (e2 : h'.tS = h.tS) : Sm c h' s := { hs with ln := e1.trans hs.ln, tS := e2.trans hs.tS }
abbrev Peers (XP : HP) (c : Cfg) (h : HW) : Prop := Reads XP h.pA ((li (List.range' 1 c.n)).map iv)
def LdN (c : Cfg) (s : Nd) : Prop := ∀ p ∈ oth c s, 1 ≤ s.nx p ∧ s.nx p ≤ s.log.length + 1
theorem sendAll_ok (hX : Peers XP c h) (hs : Sm c h s) (hl : LdN c s) (hb : x.mn ≤ 500) {bn bs : Nat} (hbn : h.nx = some bn) (hbs : h.sn = some bs) :
    Fn Tryz.prog 98 [pt p].toArray [Nb true p c h s x, XP, LgN h s, MI bn s.nx (oth c s), MB bs (sk ms), Ms h.mA x.mn h.mc ms]
    (fun v M => v = .tuple #[] ∧ ∃ A' c', M = [Nb true p c { h with mA := A', mc := c' } s { x with mn := x.mn + (oth c s).length }, XP, LgN h s, MI bn s.nx (oth c s), MB bs (sk (ms ++ Rs.apps c s)), Ms A' (x.mn + (oth c s).length) c' (ms ++ Rs.apps c s)]) := by
  have hn := hs.n
  have hol := oth_len (c := c) (s := s) hn.2
  refine Fn.enter Tryz.func98 rfl (by kernel_rfl) rfl ?_
  refine run ?_
  refine .callE (others_ok (s := s) (x := x) (p := p) hX hn.2) ?_
  rintro v L ⟨A, c', rfl, rfl⟩
  refine run ?_
  refine W.loopH (ι := Nat × Option Addr × Nat) (fun i => i.1 ≤ (oth c s).length) (fun i => [(0, pt p), (5, .slice A (oth c s).length c'), (6, nv (oth c s).length), (7, nv i.1)])
    (fun i => [Gr 1 3 A (oth c s).length c' ((li (oth c s)).map iv), Nb true p c { h with mA := i.2.1, mc := i.2.2 } s { x with mn := x.mn + i.1 }, XP, LgN h s, MI bn s.nx (oth c s), MB bs (sk (ms ++ ((oth c s).take i.1).map (Rs.app c s))), Ms i.2.1 (x.mn + i.1) i.2.2 (ms ++ ((oth c s).take i.1).map (Rs.app c s))])
    (fun i => (oth c s).length - i.1) (0, h.mA, h.mc) (Nat.zero_le _) subs (by rw [List.take_zero, List.map_nil, List.append_nil]; exact Picks.sub picks) ?_
  rintro ⟨k, A1, c1⟩ hk ih
  dsimp only at hk ih ⊢
  by_cases hlt : k < (oth c s).length
  · obtain ⟨y, hy⟩ : ∃ y, (oth c s)[k]? = some y := ⟨_, List.getElem?_eq_getElem hlt⟩
    have hym := List.mem_of_getElem? hy
    refine W.fact (fun w h => IsA.of (k := k) (Reads.gr (sz := 1) (E := 3)) .hd (by simpa using hlt) h) fun hA => ?_
    refine run ?_
    refine .quiet rfl rfl rfl (R.load (v := nv y) rfl rfl rfl rfl .gr pick (by rw [Nat.mul_one]; simp [hy])) ?_
    refine run ?_
    refine .callE (sendTo_ok (h := { h with mA := A1, mc := c1 }) (x := { x with mn := x.mn + k }) (hs.set rfl rfl) (by show x.mn + k ≤ 1000; omega) hbn hbs hym (hl y hym)) ?_
    rintro v L ⟨rfl, A2, c2, rfl⟩
    refine run ?_
    have e : ms ++ ((oth c s).take (k + 1)).map (Rs.app c s) = ms ++ ((oth c s).take k).map (Rs.app c s) ++ [Rs.app c s y] := by
      rw [List.take_add_one, hy, List.map_append, List.append_assoc]; rfl
    have h2 := ih (k + 1, A2, c2) hlt (by dsimp only; omega)
    rw [e] at h2
    exact .back h2
  · have hk : k = (oth c s).length := by omega
    subst hk
    rw [List.take_length]
    refine run ?_
    exact .doneE Tryz.func98 ⟨rfl, A1, c1, rfl⟩
end
end Go.SL
namespace Go.SL
open Go.Proofs Go.Proofs.YtocogcgnahbpkaaGreat
open Rs (Nd)
set_option maxRecDepth 10000
def cpl : List Rf.Ent → List Rf.Ent → Nat
  | a :: l, b :: m => if a = b then cpl l m + 1 else 0
  | _, _ => 0
def fr (l m : List Rf.Ent) : Nat := if m = l then 0 else cpl l m + 1
theorem fr_self {l : List Rf.Ent} : fr l l = 0 := if_pos rfl
theorem cpl_app {m : List Rf.Ent} : ∀ {l : List Rf.Ent}, cpl l (l ++ m) = l.length
  | [] => by cases m <;> rfl
  | a :: l => by rw [List.cons_append, cpl, if_pos rfl, cpl_app, List.length_cons]
theorem fr_app {l m : List Rf.Ent} (hm : m ≠ []) : fr l (l ++ m) = l.length + 1 := by unfold fr; rw [if_neg (by simpa using hm), cpl_app]
theorem fj_fr {l a m : List Rf.Ent} : fj (fr l (l ++ a)) (l ++ a).length m = fr l (l ++ a ++ m) := by
  cases m with
  | nil => rw [List.append_nil]; rfl
  | cons e m =>
    rw [List.append_assoc, fr_app (m := a ++ e :: m) (by simp)]
    unfold fj tf
    by_cases ha : a = []
    · subst ha; rw [List.append_nil, fr_self]; simp
    · rw [fr_app ha]; have : 0 < a.length := List.length_pos_iff.2 ha; rw [if_neg (by simp)]
def R4 (c : Cfg) (h : HW) (s : Nd) : HP := fun r => ∃ b : Nat × Nat × Nat, (h.mt = some b.1 ∧ h.nx = some b.2.1 ∧ h.hd = some b.2.2) ∧ Stars [MI b.1 s.mt (oth c s), MI b.2.1 s.nx (oth c s), MB b.2.2 s.hd] r
def R3 (h : HW) (s : Nd) : HP := fun r => ∃ b : Nat × Nat, (h.gr = some b.1 ∧ h.rf = some b.2) ∧ Stars [MB b.1 s.gr, MB b.2 s.rf] r
def R2 (h : HW) (s : Nd) : HP := fun r => ∃ b : Nat, h.gr = some b ∧ Stars [MB b s.gr] r
def Rp (c : Cfg) (h : HW) (s : Nd) : HP := fun r => (s.role = 4 → R4 c h s r) ∧ (s.role = 3 → R3 h s r) ∧ (s.role = 2 → R2 h s r)
abbrev PeersG (c : Cfg) (h : HW) : HP := Gr 1 3 h.pA c.n h.pc ((li (List.range' 1 c.n)).map iv)
theorem peersG {c : Cfg} {h : HW} : Peers (PeersG c h) c h := .gr
def HwOk (bs : Nat) (s : Nd) (h : HW) : Prop := h.ln = s.log.length - s.snap ∧ h.tS = s.tm s.snap ∧ h.sn = some bs
def Nod (p : Nat) (c : Cfg) (bs : Nat) (s : Nd) (x : EX) (ms : List Rf.Msg) : HP := fun r => ∃ h : HW, HwOk bs s h ∧ Stars [Nb true p c h s x, PeersG c h, LgN h s, Rp c h s, MB bs (sk ms), Ms h.mA x.mn h.mc ms] r
def hw0 (s : Nd) : HW := ⟨none, 0, none, 0, none, none, none, none, none, none, none, 0, s.log.length - s.snap, s.tm s.snap⟩
abbrev Sn (c : Cfg) (s : Nd) : Prop := Sm c (hw0 s) s
theorem Sn.at {c : Cfg} {s : Nd} {h : HW} {bs : Nat} (hs : Sn c s) (hh : HwOk bs s h) : Sm c h s := hs.set hh.1 hh.2.1
theorem Sn.mk {c : Cfg} {s s' : Nd} (hs : Sn c s) (h1 : 1 ≤ s'.id ∧ s'.id ≤ c.n) (h2 : s'.term ≤ 1099511627776) (h3 : s'.snap ≤ s'.commit ∧ s'.commit ≤ s'.log.length ∧ s'.log.length ≤ 1099511627776 ∧ s'.log.length ≤ s'.snap + 65536)
    (h4 : ∀ e ∈ s'.log, e.data.length ≤ 140737488351232) (h5 : s'.elapsed ≤ 1099511627776 ∧ s'.beat ≤ 1099511627776) : Sn c s' := ⟨rfl, rfl, hs.n, hs.cf, h1, h2, h3, h4, h5⟩
section
variable {P : Program} {n f : Nat} {e : Env} {L : List HP} {R : Fin} {k : List Item} {ds : List Deferred} {c : Cfg} {h : HW} {s : Nd} {bs p : Nat} {x : EX} {ms : List Rf.Msg} {l : List HP} {X : HP} {v : Value} {ar : Array Value}
theorem W.pur {φ : Prop} (h : φ → W P f n R k e ds (X :: L)) : W P f n R k e ds ((fun r => φ ∧ X r) :: L) := fun F b cs t w h1 h2 h3 h4 => by
  obtain ⟨r, a, r1, r2, y1, y2, y3, ⟨g1, g2⟩, y4⟩ := h4
  exact h g1 F b cs t w h1 h2 h3 ⟨r, a, r1, r2, y1, y2, y3, g2, y4⟩
theorem Ent.exi {α : Sort _} {q : α → HP} (x : α) : Ent (q x :: L) ((fun r => ∃ x, q x r) :: L) := .of fun _ h => ⟨x, h⟩
theorem Ent.pur {φ : Prop} (h : φ) : Ent (X :: L) ((fun r => φ ∧ X r) :: L) := .of fun _ h' => ⟨h, h'⟩
theorem W.nod (H : ∀ h, HwOk bs s h → W P f n R k e ds (Nb true p c h s x :: PeersG c h :: LgN h s :: Rp c h s :: MB bs (sk ms) :: Ms h.mA x.mn h.mc ms :: L)) : W P f n R k e ds (Nod p c bs s x ms :: L) :=
  .ex fun h => .pur fun hh => .ent (Ent.star (l := [_, _, _, _, _, _])) (H h hh)
theorem Nod.close (h : HW) (hh : HwOk bs s h) : Ent (Nb true p c h s x :: PeersG c h :: LgN h s :: Rp c h s :: MB bs (sk ms) :: Ms h.mA x.mn h.mc ms :: L) (Nod p c bs s x ms :: L) :=
  (Ent.unstar (l := [_, _, _, _, _, _])).trans ((Ent.pur (X := Stars [Nb true p c h s x, PeersG c h, LgN h s, Rp c h s, MB bs (sk ms), Ms h.mA x.mn h.mc ms]) hh).trans (Ent.exi (q := fun h => fun r => HwOk bs s h ∧ Stars [Nb true p c h s x, PeersG c h, LgN h s, Rp c h s, MB bs (sk ms), Ms h.mA x.mn h.mc ms] r) h))
theorem FnQ.pur {φ : Prop} (he : Enters P f) (h : φ → FnQ P f ar (X :: L) v) : FnQ P f ar ((fun r => φ ∧ X r) :: L) v := ⟨he, fun w hs => by
  obtain ⟨r, a, r1, r2, y1, y2, y3, ⟨g1, g2⟩, y4⟩ := hs
  exact (h g1).2 w ⟨r, a, r1, r2, y1, y2, y3, g2, y4⟩⟩
theorem FnQ.nod (he : Enters P f) (H : ∀ h, HwOk bs s h → FnQ P f ar (Nb true p c h s x :: PeersG c h :: LgN h s :: Rp c h s :: MB bs (sk ms) :: Ms h.mA x.mn h.mc ms :: L) v) : FnQ P f ar (Nod p c bs s x ms :: L) v :=
  .ex he fun h => .pur he fun hh => (H h hh).pre (Ent.star (l := [_, _, _, _, _, _]))
theorem W.rp4 (hr : s.role = 4) (H : ∀ bm bn bh, h.mt = some bm → h.nx = some bn → h.hd = some bh → W P f n R k e ds (MI bm s.mt (oth c s) :: MI bn s.nx (oth c s) :: MB bh s.hd :: L)) : W P f n R k e ds (Rp c h s :: L) :=
  .ent (Ent.of (Y := R4 c h s) fun _ hh => hh.1 hr) (.ex fun ⟨bm, bn, bh⟩ => .pur fun ⟨h1, h2, h3⟩ => .ent (Ent.star (l := [_, _, _])) (H bm bn bh h1 h2 h3))
theorem Rp.c4 {bm bn bh : Nat} (hr : s.role = 4) (h1 : h.mt = some bm) (h2 : h.nx = some bn) (h3 : h.hd = some bh) : Ent (MI bm s.mt (oth c s) :: MI bn s.nx (oth c s) :: MB bh s.hd :: L) (Rp c h s :: L) :=
  (Ent.unstar (l := [_, _, _])).trans (.of fun _ hh => ⟨fun _ => ⟨(bm, bn, bh), ⟨h1, h2, h3⟩, hh⟩, fun e => absurd (hr.symm.trans e) (by decide), fun e => absurd (hr.symm.trans e) (by decide)⟩)
theorem W.rp3 (hr : s.role = 3) (H : ∀ bg br, h.gr = some bg → h.rf = some br → W P f n R k e ds (MB bg s.gr :: MB br s.rf :: L)) : W P f n R k e ds (Rp c h s :: L) :=
  .ent (Ent.of (Y := R3 h s) fun _ hh => hh.2.1 hr) (.ex fun ⟨bg, br⟩ => .pur fun ⟨h1, h2⟩ => .ent (Ent.star (l := [_, _])) (H bg br h1 h2))
theorem Rp.c3 {bg br : Nat} (hr : s.role = 3) (h1 : h.gr = some bg) (h2 : h.rf = some br) : Ent (MB bg s.gr :: MB br s.rf :: L) (Rp c h s :: L) :=
  (Ent.unstar (l := [_, _])).trans (.of fun _ hh => ⟨fun e => absurd (hr.symm.trans e) (by decide), fun _ => ⟨(bg, br), ⟨h1, h2⟩, hh⟩, fun e => absurd (hr.symm.trans e) (by decide)⟩)
theorem W.rp2 (hr : s.role = 2) (H : ∀ bg, h.gr = some bg → W P f n R k e ds (MB bg s.gr :: L)) : W P f n R k e ds (Rp c h s :: L) :=
  .ent (Ent.of (Y := R2 h s) fun _ hh => hh.2.2 hr) (.ex fun bg => .pur fun h1 => .ent (Ent.star (l := [_])) (H bg h1))
theorem Rp.c2 {bg : Nat} (hr : s.role = 2) (h1 : h.gr = some bg) : Ent (MB bg s.gr :: L) (Rp c h s :: L) :=
  (Ent.unstar (l := [_])).trans (.of fun _ hh => ⟨fun e => absurd (hr.symm.trans e) (by decide), fun e => absurd (hr.symm.trans e) (by decide), fun _ => ⟨bg, h1, hh⟩⟩)
theorem Rp.c1 (hr : s.role = 1) : Ent L (Rp c h s :: L) := .mk fun _ => ⟨fun e => absurd (hr.symm.trans e) (by decide), fun e => absurd (hr.symm.trans e) (by decide), fun e => absurd (hr.symm.trans e) (by decide)⟩
theorem Rp.as {s' : Nd} {h' : HW} (h1 : s'.role = s.role) (h2 : s'.id = s.id) (h3 : s'.mt = s.mt) (h4 : s'.nx = s.nx) (h5 : s'.hd = s.hd) (h6 : s'.gr = s.gr) (h7 : s'.rf = s.rf) (g1 : h'.mt = h.mt) (g2 : h'.nx = h.nx) (g3 : h'.hd = h.hd) (g4 : h'.gr = h.gr) (g5 : h'.rf = h.rf) : Rp c h' s' = Rp c h s := by
  unfold Rp R4 R3 R2 oth; rw [h1, h2, h3, h4, h5, h6, h7, g1, g2, g3, g4, g5]
theorem Rp.to (s' : Nd) (h' : HW) (h1 : s'.role = s.role := by exact rfl) (h2 : s'.id = s.id := by exact rfl) (h3 : s'.mt = s.mt := by exact rfl) (h4 : s'.nx = s.nx := by exact rfl) (h5 : s'.hd = s.hd := by exact rfl) (h6 : s'.gr = s.gr := by exact rfl) (h7 : s'.rf = s.rf := by exact rfl) (g1 : h'.mt = h.mt := by exact rfl) (g2 : h'.nx = h.nx := by exact rfl) (g3 : h'.hd = h.hd := by exact rfl) (g4 : h'.gr = h.gr := by exact rfl) (g5 : h'.rf = h.rf := by exact rfl) : Ent (Rp c h s :: L) (Rp c h' s' :: L) := by
  rw [Rp.as h1 h2 h3 h4 h5 h6 h7 g1 g2 g3 g4 g5]; exact .refl _
theorem Fn.exi {α : Sort _} {q : α → HP} (he : Enters P f) (H : ∀ y, Fn P f ar (q y :: L) R) : Fn P f ar ((fun r => ∃ y, q y r) :: L) R := ⟨he, fun F w hs => let ⟨y, h5⟩ := Sat.ex hs; (H y).2 F w h5⟩
theorem Fn.pur {φ : Prop} (he : Enters P f) (H : φ → Fn P f ar (X :: L) R) : Fn P f ar ((fun r => φ ∧ X r) :: L) R := ⟨he, fun F w hs => by
  obtain ⟨r, a, r1, r2, y1, y2, y3, ⟨g1, g2⟩, y4⟩ := hs
  exact (H g1).2 F w ⟨r, a, r1, r2, y1, y2, y3, g2, y4⟩⟩
theorem Fn.nod (he : Enters P f) (H : ∀ h, HwOk bs s h → Fn P f ar (Nb true p c h s x :: PeersG c h :: LgN h s :: Rp c h s :: MB bs (sk ms) :: Ms h.mA x.mn h.mc ms :: L) R) : Fn P f ar (Nod p c bs s x ms :: L) R :=
  .exi he fun h => .pur he fun hh => (H h hh).pre (Ent.star (l := [_, _, _, _, _, _]))
theorem Fn.rp4 (he : Enters P f) (hr : s.role = 4) (H : ∀ bm bn bh, h.mt = some bm → h.nx = some bn → h.hd = some bh → Fn P f ar (MI bm s.mt (oth c s) :: MI bn s.nx (oth c s) :: MB bh s.hd :: L) R) : Fn P f ar (Rp c h s :: L) R :=
  .pre (.exi he fun ⟨bm, bn, bh⟩ => .pur he fun ⟨h1, h2, h3⟩ => (H bm bn bh h1 h2 h3).pre (Ent.star (l := [_, _, _]))) (Ent.of (Y := R4 c h s) fun _ hh => hh.1 hr)
theorem Fn.frame {pre L' : List HP} (h : Fn P f ar pre R) (hp : Picks pre L L') : Fn P f ar L fun v M => ∃ L2, R v L2 ∧ M = L2 ++ L' := ⟨h.1, fun F w hs => by
  have h4 : Sat w (pre ++ [Stars (L' ++ [F])]) := (hs.entF hp.ent).ent (by rw [List.append_assoc]; exact (Ent.refl pre).app (by have := Ent.unstar (l := L' ++ [F]) (m := []); rwa [List.append_nil] at this))
  refine (h.2 (Stars (L' ++ [F])) w h4).mono ?_
  rintro _ w' ⟨v, L2, rfl, hr, hs⟩
  refine ⟨v, L2 ++ L', rfl, ⟨L2, hr, rfl⟩, hs.ent ?_⟩
  rw [List.append_assoc]
  exact (Ent.refl L2).app (by have := Ent.star (l := L' ++ [F]) (m := []); rwa [List.append_nil] at this)⟩
variable {L' : List HP} {ops : Array Oper} {rest : List Oper} {C : Env → List HP → Prop}
theorem Nod.shut (h h0 : HW) (s s0 : Nd) (hh : HwOk bs s h) (hr : Rp c h s = Rp c h0 s0) (hp : Picks [Nb true p c h s x, PeersG c h, LgN h s, Rp c h0 s0, MB bs (sk ms), Ms h.mA x.mn h.mc ms] L L') : Ent L (Nod p c bs s x ms :: L') :=
  hp.ent.trans (by rw [← hr]; exact Nod.close h hh)
theorem W.shut (h h0 : HW) (s s0 : Nd) (hh : HwOk bs s h) (hn : W P f n R k e ds (Nod p c bs s x ms :: L')) (hr : Rp c h s = Rp c h0 s0 := by exact Rp.as rfl rfl rfl rfl rfl rfl rfl rfl rfl rfl rfl rfl) (hp : Picks [Nb true p c h s x, PeersG c h, LgN h s, Rp c h0 s0, MB bs (sk ms), Ms h.mA x.mn h.mc ms] L L' := by exact picks) : W P f n R k e ds L :=
  .ent (Nod.shut h h0 s s0 hh hr hp) hn
theorem RS.shut (h h0 : HW) (s s0 : Nd) (hh : HwOk bs s h) (hn : RS P n ops rest C e (Nod p c bs s x ms :: L')) (hr : Rp c h s = Rp c h0 s0 := by exact Rp.as rfl rfl rfl rfl rfl rfl rfl rfl rfl rfl rfl rfl) (hp : Picks [Nb true p c h s x, PeersG c h, LgN h s, Rp c h0 s0, MB bs (sk ms), Ms h.mA x.mn h.mc ms] L L' := by exact picks) : RS P n ops rest C e L :=
  .ent (Nod.shut h h0 s s0 hh hr hp) hn
theorem RS.ex' {α : Sort _} {p : α → HP} (h : ∀ y, RS P n ops rest C e (p y :: L)) : RS P n ops rest C e ((fun r => ∃ x, p x r) :: L) := fun F a w Q h1 h2 h3 => let ⟨y, h5⟩ := Sat.ex h2; h y F a w Q h1 h5 h3
theorem RS.pur' {φ : Prop} (h : φ → RS P n ops rest C e (X :: L)) : RS P n ops rest C e ((fun r => φ ∧ X r) :: L) := fun F a w Q h1 h2 h3 => by
  obtain ⟨r, a', r1, r2, y1, y2, y3, ⟨g1, g2⟩, y4⟩ := h2
  exact h g1 F a w Q h1 ⟨r, a', r1, r2, y1, y2, y3, g2, y4⟩ h3
theorem RS.nod (H : ∀ h, HwOk bs s h → RS P n ops rest C e (Nb true p c h s x :: PeersG c h :: LgN h s :: Rp c h s :: MB bs (sk ms) :: Ms h.mA x.mn h.mc ms :: L)) : RS P n ops rest C e (Nod p c bs s x ms :: L) :=
  .ex' fun h => .pur' fun hh => .ent (Ent.star (l := [_, _, _, _, _, _])) (H h hh)
theorem W.first (X : HP) (hn : W P f n R k e ds (X :: L')) (hp : Picks [X] L L' := by exact picks) : W P f n R k e ds L := .ent hp.ent hn
theorem RS.first (X : HP) (hn : RS P n ops rest C e (X :: L')) (hp : Picks [X] L L' := by exact picks) : RS P n ops rest C e L := .ent hp.ent hn
theorem RS.rp4 (hr : s.role = 4) (H : ∀ bm bn bh, h.mt = some bm → h.nx = some bn → h.hd = some bh → RS P n ops rest C e (MI bm s.mt (oth c s) :: MI bn s.nx (oth c s) :: MB bh s.hd :: L)) : RS P n ops rest C e (Rp c h s :: L) :=
  .ent (Ent.of (Y := R4 c h s) fun _ hh => hh.1 hr) (.ex' fun ⟨bm, bn, bh⟩ => .pur' fun ⟨h1, h2, h3⟩ => .ent (Ent.star (l := [_, _, _])) (H bm bn bh h1 h2 h3))
theorem RS.rp3 (hr : s.role = 3) (H : ∀ bg br, h.gr = some bg → h.rf = some br → RS P n ops rest C e (MB bg s.gr :: MB br s.rf :: L)) : RS P n ops rest C e (Rp c h s :: L) :=
  .ent (Ent.of (Y := R3 h s) fun _ hh => hh.2.1 hr) (.ex' fun ⟨bg, br⟩ => .pur' fun ⟨h1, h2⟩ => .ent (Ent.star (l := [_, _])) (H bg br h1 h2))
theorem RS.rp2 (hr : s.role = 2) (H : ∀ bg, h.gr = some bg → RS P n ops rest C e (MB bg s.gr :: L)) : RS P n ops rest C e (Rp c h s :: L) :=
  .ent (Ent.of (Y := R2 h s) fun _ hh => hh.2.2 hr) (.ex' fun bg => .pur' fun h1 => .ent (Ent.star (l := [_])) (H bg h1))
end
end Go.SL
