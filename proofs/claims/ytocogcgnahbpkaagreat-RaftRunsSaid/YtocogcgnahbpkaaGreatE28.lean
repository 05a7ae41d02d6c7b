/-
  A part of the proof of what E53 says at its head.
-/
import Derived.Test.YtocogcgnahbpkaaGreatE27
namespace Go.SL
open Go.Proofs Go.Proofs.YtocogcgnahbpkaaGreat
open Rs (Nd)
set_option maxRecDepth 10000
theorem cpl_le : ∀ {l m : List Rf.Ent}, cpl l m ≤ m.length
  | [], [] => Nat.le_refl _
  | [], _ :: _ => Nat.zero_le _
  | _ :: _, [] => Nat.le_refl _
  | a :: l, b :: m => by
    unfold cpl
    split
    · have := cpl_le (l := l) (m := m); rw [List.length_cons]; omega
    · omega
theorem cpl_more {n : List Rf.Ent} : ∀ {l m : List Rf.Ent}, cpl l m < m.length → cpl l (m ++ n) = cpl l m
  | [], [], h => by simp at h
  | [], _ :: _, _ => rfl
  | a :: l, [], h => by simp [cpl] at h
  | a :: l, b :: m, h => by
    rw [List.cons_append]
    unfold cpl at h ⊢
    split
    · rename_i hab
      rw [if_pos hab, List.length_cons] at h
      rw [cpl_more (by omega)]
    · rfl
theorem fr_more {l m n : List Rf.Ent} (h : 0 < fr l m ∧ fr l m ≤ m.length) : fr l (m ++ n) = fr l m := by
  unfold fr at h ⊢
  by_cases h0 : m = l
  · rw [if_pos h0] at h; omega
  · rw [if_neg h0] at h ⊢
    have hc := cpl_more (n := n) (show cpl l m < m.length by omega)
    rw [if_neg (fun hc2 => ?_), hc]
    subst hc2
    have h3 : cpl (m ++ n) (m ++ n) = (m ++ n).length := by have := cpl_app (l := m ++ n) (m := []); rwa [List.append_nil] at this
    rw [h3, List.length_append] at hc
    omega
theorem merge_snoc {room n : Nat} {L : List Rf.Ent} {e : Rf.Ent} {rest : List Rf.Ent} (hn : n ≤ L.length) (hm : (L[n]?).map (·.term) ≠ some e.term) (hr : n + 1 + rest.length ≤ room) :
    Rs.merge room L n (e :: rest) = Rs.merge room (L.take n ++ [e]) (n + 1) rest := by
  have hl : (L.take n).length = n := by rw [List.length_take]; omega
  rw [merge_cut hm, hl, List.take_of_length_le (l := e :: rest) (by rw [List.length_cons]; omega)]
  cases rest with
  | nil => rfl
  | cons e2 r2 =>
    have hl2 : (L.take n ++ [e]).length = n + 1 := by rw [List.length_append, hl]; rfl
    have h0 : (L.take n ++ [e])[n + 1]? = none := List.getElem?_eq_none (by omega)
    rw [merge_cut (by rw [h0]; simp), List.take_of_length_le (l := L.take n ++ [e]) (by omega), hl2, List.take_of_length_le (l := e2 :: r2) (by rw [List.length_cons] at hr ⊢; omega), List.append_assoc]
    simp only [List.length_cons, List.singleton_append]
    congr 1; omega
def lgN (s : Nd) (L : List Rf.Ent) : Nd := { s with log := L }
theorem lgN_tm {s : Nd} {L : List Rf.Ent} {i j : Nat} (h : L.take j = s.log.take j) (hi : i ≤ j) : (lgN s L).tm i = s.tm i := by
  show Rf.tmL L i = Rf.tmL s.log i
  unfold Rf.tmL
  by_cases h0 : i = 0
  · rw [if_pos h0, if_pos h0]
  · rw [if_neg h0, if_neg h0]
    have : (L.take j)[i - 1]? = (s.log.take j)[i - 1]? := by rw [h]
    rw [List.getElem?_take_of_lt (by omega), List.getElem?_take_of_lt (by omega)] at this
    rw [this]
theorem Gr.cutTo {sz E n c k : Nat} {A : Option Addr} {cs : List Value} {r : Res} (h : Gr sz E A n c cs r) (hk : k ≤ n) : Gr sz E A k c (cs.take (k * sz)) r := by
  obtain ⟨h1, h2⟩ := h
  have hks : k * sz ≤ n * sz := Nat.mul_le_mul_right _ hk
  refine ⟨by rw [List.length_take]; omega, ?_⟩
  rcases h2 with ⟨b, d⟩ | ⟨g, pre, junk, a, b, d, e, f⟩
  · refine .inl ⟨by omega, d⟩
  · refine .inr ⟨g, pre, cs.drop (k * sz) ++ junk, a, by omega, d, ?_, ?_⟩
    · rw [List.length_append, List.length_drop, h1, e, Nat.sub_mul, Nat.sub_mul]
      have := Nat.mul_le_mul_right sz b
      omega
    · rw [← List.append_assoc, List.append_assoc pre, List.take_append_drop]; exact f
attribute [local irreducible] W RS RG RD Fn FnQ OpS QOp Own Sat Rd Gr Mp Rg Lg Ms Es Nod Rp NodI RLg RMs REs RN RLd RNF
section
variable {c : Cfg} {h : RW} {s : Nd} {x : RX} {p : Nat} {q : Bool} {d : Int} {ms : List Rf.Msg} {m : Rf.Msg} {A : Option Addr} {cp : Nat} {l0 : List Rf.Ent} {fl : Nat × Nat}
structure TakeI (c : Cfg) (s : Nd) (m : Rf.Msg) (k : Nat) (L : List Rf.Ent) : Prop where
  le : k ≤ m.es.length
  len : m.idx + k ≤ L.length
  mg : Rs.merge (s.snap + 65536) s.log m.idx m.es = Rs.merge (s.snap + 65536) L (m.idx + k) (m.es.drop k)
  ph : L = s.log ∨ (L.length = m.idx + k ∧ 0 < fr s.log L ∧ fr s.log L ≤ L.length)
  same : L.take m.idx = s.log.take m.idx
  sn : Sn c (lgN s L)
theorem rtake_ok {X D : HP} {mes : List LE} (hs : Sn c s) (hX : Reads X A (mes.flatMap encLE)) (hD : DRead D mes) (hmes : mes.map (·.e) = ents m.idx m.es) (hd : ∀ e ∈ m.es, e.data.length ≤ 140737488351232) (hi : s.commit ≤ m.idx ∧ m.idx ≤ s.log.length) (hfit : m.idx + m.es.length < 65536) :
    Fn Tryz.prog 153 [pt p, .agg (encM m A cp).toArray].toArray [RNS p c s.log fl s ms, X, D] (Det (nv (Rs.merge (s.snap + 65536) s.log m.idx m.es).2) [RNS p c s.log fl (lgN s (Rs.merge (s.snap + 65536) s.log m.idx m.es).1) ms, X, D]) := by
  have hf := hs.fin
  have hml := les_len hmes
  refine Fn.enter Tryz.func153 rfl (by kernel_rfl) rfl ?_
  refine run ?_
  refine .box fun z => ?_
  refine run ?_
  refine W.loopH (ι := Nat × List Rf.Ent) (fun i => TakeI c s m i.1 i.2) (fun i => [(0, pt p), (3, pt z), (5, nv (m.idx + i.1)), (6, nv i.1)])
    (fun i => [RNS p c s.log fl (lgN s i.2) ms, Blk true z (encM m A cp) 59, X, D]) (fun i => m.es.length - i.1) (0, s.log) ⟨Nat.zero_le _, by dsimp only; omega, rfl, .inl rfl, rfl, hs⟩ subs (Picks.sub picks) ?_
  rintro ⟨k, L⟩ hI ih
  obtain ⟨hk, hlen, hmg, hph, hsame, hsn⟩ := hI
  dsimp only at hk hlen hmg hph hsame hsn ih ⊢
  by_cases hlt : k < m.es.length
  · obtain ⟨en, hen⟩ : ∃ en, m.es[k]? = some en := ⟨_, List.getElem?_eq_getElem hlt⟩
    obtain ⟨y, hy⟩ : ∃ y, mes[k]? = some y := ⟨_, List.getElem?_eq_getElem (by omega)⟩
    have hym := List.mem_of_getElem? hy
    obtain ⟨en', he1, he2⟩ := les_at hmes hy
    rw [hen] at he1
    injection he1 with he1
    subst he1
    have hdr : m.es.drop k = en :: m.es.drop (k + 1) := by
      obtain ⟨h5, h6⟩ := List.getElem?_eq_some_iff.1 hen
      rw [← h6]; exact List.drop_eq_getElem_cons h5
    rw [hdr] at hmg
    have hend := hd en (List.mem_of_getElem? hen)
    obtain ⟨ye, yA, yc⟩ := y
    dsimp only at he2
    subst he2
    have hsf := hsn.fin
    have hlgl : (lgN s L).log.length = L.length := rfl
    have hlgs : (lgN s L).snap = s.snap := rfl
    refine .first X ?_
    refine W.fact (fun w h => IsA.of (k := k * 3) hX .hd (by rw [flat_len lenLE]; omega) h) fun hA => ?_
    refine run ?_
    refine .new fun z6 => ?_
    refine run ?_
    refine .first (Blk true z6 [nv (m.idx + k + 1), nv en.term, .slice yA en.data.length yc] 67) ?_
    refine .first (RNS p c s.log fl (lgN s L) ms) ?_
    refine .rn fun h hh => ?_
    have hE : ∀ s1 x h, RwOk s1 h → Sn c s1 → FnQ Tryz.prog 70 [pt p].toArray [Rb true p c h s1 x] (nv s1.log.length) := fun s1 x h h1 h2 => rend_q (h1.rm h2)
    have hEL := hE _ (rxS ms.length (snL ms).length (fr s.log L) fl) _ hh hsn
    refine W.plan [3, 9] mixed (by rfl) (by kernel_rfl) ?_
    refine run ?_
    refine .callQ hEL ?_
    have hT := rterm_q (x := rxS ms.length (snL ms).length (fr s.log L) fl) (p := p) (q := true) (hh.rm hsn) (i := m.idx + k + 1)
    by_cases hmt : (L[m.idx + k]?).map (·.term) = some en.term
    · obtain ⟨e5, h5, h6⟩ := Option.map_eq_some_iff.1 hmt
      have h7 := (List.getElem?_eq_some_iff.1 h5).1
      have h8 : (lgN s L).tm (m.idx + k + 1) = en.term := by rw [tm_succ (s := lgN s L) h5, h6]
      refine run ?_
      refine .callQ (hT ⟨by show s.snap ≤ _; omega, by show _ ≤ L.length; omega⟩) ?_
      refine run ?_
      refine W.plan [3] mixed (by rfl) (by kernel_rfl) ?_
      refine run ?_
      refine .callQ hEL ?_
      refine run ?_
      refine .rshut (ms := ms) (c := c) (p := p) h (lgN s L) (rxS ms.length (snL ms).length (fr s.log L) fl) hh ?_
      refine .back (ih (k + 1, L) ⟨by dsimp only; omega, by dsimp only; omega, by rw [hmg, merge_go hmt]; rfl, ?_, hsame, hsn⟩ (by dsimp only; omega))
      refine hph.imp id fun h9 => ?_
      exact absurd h7 (by omega)
    · have hmn := merge_snoc (room := s.snap + 65536) (e := en) (rest := m.es.drop (k + 1)) hlen hmt (by rw [List.length_drop]; omega)
      have hl2 : (L.take (m.idx + k)).length = m.idx + k := by rw [List.length_take]; omega
      have hcs : Sn c (lgN s (L.take (m.idx + k))) := hs.mk hs.id hs.term ⟨hf.1, by show s.commit ≤ (L.take _).length; omega, by show (L.take _).length ≤ _; omega, by show (L.take _).length ≤ s.snap + _; omega⟩ (fun e he => hsn.data e (List.mem_of_mem_take he)) hs.el
      have hns : Sn c (lgN s (L.take (m.idx + k) ++ [en])) := hs.mk hs.id hs.term ⟨hf.1, by show s.commit ≤ (L.take _ ++ _).length; rw [List.length_append]; omega, by show (L.take _ ++ [en]).length ≤ _; rw [List.length_append, hl2, List.length_singleton]; omega, by show (L.take _ ++ [en]).length ≤ s.snap + _; rw [List.length_append, hl2, List.length_singleton]; omega⟩ (fun e he => by
        rcases List.mem_append.1 he with he | he
        · exact hsn.data e (List.mem_of_mem_take he)
        · rw [List.mem_singleton.1 he]; exact hend) hs.el
      have hsame2 : (L.take (m.idx + k) ++ [en]).take m.idx = s.log.take m.idx := by rw [List.take_append_of_le_length (by omega), List.take_take, Nat.min_eq_left (by omega), hsame]
      have hph2 : 0 < fr s.log (L.take (m.idx + k) ++ [en]) ∧ fr s.log (L.take (m.idx + k) ++ [en]) ≤ m.idx + k + 1 ∧ fr s.log (L.take (m.idx + k) ++ [en]) = (if fr s.log L = 0 ∨ m.idx + k + 1 < fr s.log L then m.idx + k + 1 else fr s.log L) := by
        rcases hph with rfl | ⟨h9, h10, h11⟩
        · rw [fr_self, if_pos (.inl rfl)]
          by_cases hq : m.idx + k < s.log.length
          · have h12 := fr_cut (new := [en]) hq (fun e he hc => hmt (by rw [hc]; simp at he; rw [he]; rfl))
            rw [fr_take hq, hl2] at h12
            rw [← h12]
            unfold fj tf; simp
          · rw [List.take_of_length_le (by omega), fr_app (by simp)]; omega
        · have h12 := fr_more (n := [en]) ⟨h10, h11⟩
          rw [List.take_of_length_le (by omega), h12, if_neg (by omega)]; omega
      obtain ⟨f1, f2, f3⟩ := hph2
      have hnext := ih (k + 1, L.take (m.idx + k) ++ [en]) ⟨by dsimp only; omega, by dsimp only; rw [List.length_append, hl2]; simp; omega, by rw [hmg, hmn]; rfl, .inr ⟨by dsimp only; rw [List.length_append, hl2]; simp; omega, f1, by dsimp only; rw [List.length_append, hl2]; simpa using f2⟩, hsame2, hns⟩ (by dsimp only; omega)
      dsimp only at hnext
      have htS : h.tS = s.tm s.snap := hh.2.trans (lgN_tm hsame (by omega))
      have hln := hh.1
      have hln2 : h.ln = L.length - s.snap := hln
      by_cases hq : m.idx + k < L.length
      · have h5 : L[m.idx + k]? = some L[m.idx + k] := List.getElem?_eq_getElem hq
        have h8 : (lgN s L).tm (m.idx + k + 1) ≠ en.term := fun hc => hmt (by rw [h5]; rw [tm_succ (s := lgN s L) h5] at hc; rw [← hc]; rfl)
        refine run ?_
        refine .callQ (hT ⟨by show s.snap ≤ _; omega, by show _ ≤ L.length; omega⟩) ?_
        refine run ?_
        refine .callD (changed_ok (c := c) (h := h) (s := lgN s L) (x := rxS ms.length (snL ms).length (fr s.log L) fl) (p := p) (i := m.idx + k + 1)) ?_
        refine run ?_
        refine .first (RLgN h (lgN s L)) ?_
        refine .rlg fun les hles => ?_
        have hlen2 := les_len hles
        rw [List.length_drop] at hlen2
        refine W.fact (fun w h => Gr.cap h) fun hcap => ?_
        refine W.plan [] mixed (by rfl) (by kernel_rfl) ?_
        refine run ?_
        refine RG.hit 53 rfl (by congr 1; omega : _ = nv (m.idx + k - s.snap)) ?_
        refine RG.takeP rfl rfl rfl rfl (Q.sliceTo (hi := m.idx + k - s.snap) rfl rfl rfl rfl rfl rfl (by omega)) ?_
        generalize hj : m.idx + k - s.snap = j
        have hlj : (les.take j).length = j := by rw [List.length_take]; omega
        refine run ?_
        have ej : (les.flatMap encLE).take (j * 3) = (les.take j).flatMap encLE := flat_take lenLE les j
        have hlesj : (les.take j).map (·.e) = ents s.snap ((L.take (m.idx + k)).drop s.snap) := by
          rw [List.map_take, hles, ents_take]; show ents s.snap ((L.drop s.snap).take j) = _; rw [List.drop_take, hj]
        refine .ent ((Picks.ent (a := [Gr 3 67 h.lA h.ln h.lc (les.flatMap encLE)]) picks).trans (Ent.of (Y := Gr 3 67 h.lA j h.lc ((les.take j).flatMap encLE)) fun r hr => by rw [← ej]; exact hr.cutTo (by omega))) ?_
        refine .ent ((Picks.ent (a := [Ds les]) picks).trans (Ent.of (Y := Ds (les.take j)) fun r hr => Ds.sub hr fun z hz => List.mem_of_mem_take hz)) ?_
        have hh2 : RwOk (lgN s (L.take (m.idx + k))) { h with ln := j } := ⟨by show j = (L.take _).length - s.snap; omega, by rw [htS]; exact (lgN_tm (j := m.idx) (by rw [List.take_take, Nat.min_eq_left (by omega)]; exact hsame) (by omega)).symm⟩
        have hEc := hE _ (rxS ms.length (snL ms).length (tf (fr s.log L) (m.idx + k + 1)) fl) _ hh2 hcs
        rw [show (lgN s (L.take (m.idx + k))).log.length = m.idx + k from hl2] at hEc
        refine .ent (Picks.ent (a := [Blk true p (rcells c { h with ln := j } (lgN s (L.take (m.idx + k))) (rxS ms.length (snL ms).length (tf (fr s.log L) (m.idx + k + 1)) fl)) 93]) picks) ?_
        refine W.plan [3] mixed (by rfl) (by kernel_rfl) ?_
        refine run ?_
        refine .callQ hEc ?_
        refine run ?_
        refine W.hit 67 rfl (by rw [decide_eq_false (by show ¬ (65536 : Int) ≤ ((j : Nat) : Int); omega)] : _ = .bool false) ?_
        refine run ?_
        refine .callD (changed_ok (c := c) (h := { h with ln := j }) (s := (lgN s (L.take (m.idx + k)))) (x := rxS ms.length (snL ms).length (tf (fr s.log L) (m.idx + k + 1)) fl) (p := p) (i := m.idx + k + 1)) ?_
        refine run ?_
        refine .first D ?_
        refine W.plan [1012] mixed (by rfl) (by kernel_rfl) ?_
        refine run ?_
        refine .copy (sz := 1) (m := en.data.length) (Src.pick rfl rfl .hd (hD.at_ hym) (by simp) rfl (allBc _)) fun A2 c2 => ?_
        refine run ?_
        refine .lit fun z2 => ?_
        refine run ?_
        refine .push (sz := 3) (nn := j) (m := 1) (Src.pick rfl rfl .hd .own rfl rfl rfl) fun A3 c3 => ?_
        refine run ?_
        refine .ent ((Picks.ent (a := [Gr 3 67 A3 (j + 1) c3 (((les.take j) ++ [(⟨⟨((m.idx + k : Nat) : Int) + 1, en.term, en.data⟩, A2, c2⟩ : LE)]).flatMap encLE), Ds (les.take j), Gr 1 5 A2 en.data.length c2 (en.data.map bc)]) (by rw [List.flatMap_append, List.flatMap_singleton]; exact picks)).trans ((Ent.cons _ (Ds.snoc (x := ⟨⟨((m.idx + k : Nat) : Int) + 1, en.term, en.data⟩, A2, c2⟩) .gr)).trans (RLg.close (i := s.snap) (l := (L.take (m.idx + k) ++ [en]).drop s.snap) (by
          rw [List.map_append, hlesj, List.drop_append_of_le_length (by omega), ents_app, List.length_drop, show s.snap + ((L.take (m.idx + k)).length - s.snap) = m.idx + k by omega]; rfl)))) ?_
        have hfr : fr s.log (lgN s (L.take (m.idx + k) ++ [en])).log = (tf (tf (fr s.log L) (m.idx + k + 1)) (m.idx + k + 1)) := by show fr s.log (L.take (m.idx + k) ++ [en]) = _; rw [f3]; unfold tf; split <;> simp_all
        rw [RNS.eq (n := ms.length) (sn := (snL ms).length) rfl rfl hfr] at hnext
        have hh3 : RwOk (lgN s (L.take (m.idx + k) ++ [en])) { h with lA := A3, lc := c3, ln := j + 1 } := ⟨by show j + 1 = (L.take _ ++ [en]).length - s.snap; rw [List.length_append, hl2, List.length_singleton]; omega, by rw [htS]; exact (lgN_tm (j := m.idx) hsame2 (by omega)).symm⟩
        refine .rshut (ms := ms) (c := c) (p := p) { h with lA := A3, lc := c3, ln := j + 1 } (lgN s (L.take (m.idx + k) ++ [en])) (rxS ms.length (snL ms).length (tf (tf (fr s.log L) (m.idx + k + 1)) (m.idx + k + 1)) fl) hh3 ?_
        exact .back hnext
      · have hnL : L.length = m.idx + k := by omega
        have hLt : L.take (m.idx + k) = L := List.take_of_length_le (by omega)
        refine run ?_
        refine W.plan [3] mixed (by rfl) (by kernel_rfl) ?_
        refine run ?_
        refine .callQ hEL ?_
        refine run ?_
        refine .callD (changed_ok (c := c) (h := h) (s := lgN s L) (x := rxS ms.length (snL ms).length (fr s.log L) fl) (p := p) (i := m.idx + k + 1)) ?_
        refine run ?_
        refine .first (RLgN h (lgN s L)) ?_
        refine .rlg fun les hles => ?_
        have hlen2 := les_len hles
        rw [List.length_drop] at hlen2
        refine .first D ?_
        refine W.plan [1012] mixed (by rfl) (by kernel_rfl) ?_
        refine run ?_
        have hlesj : les.map (·.e) = ents s.snap ((L.take (m.idx + k)).drop s.snap) := by rw [hLt]; exact hles
        refine .copy (sz := 1) (m := en.data.length) (Src.pick rfl rfl .hd (hD.at_ hym) (by simp) rfl (allBc _)) fun A2 c2 => ?_
        refine run ?_
        refine .lit fun z2 => ?_
        refine run ?_
        refine .push (sz := 3) (nn := h.ln) (m := 1) (Src.pick rfl rfl .hd .own rfl rfl rfl) fun A3 c3 => ?_
        refine run ?_
        refine .ent ((Picks.ent (a := [Gr 3 67 A3 (h.ln + 1) c3 ((les ++ [(⟨⟨((m.idx + k : Nat) : Int) + 1, en.term, en.data⟩, A2, c2⟩ : LE)]).flatMap encLE), Ds les, Gr 1 5 A2 en.data.length c2 (en.data.map bc)]) (by rw [List.flatMap_append, List.flatMap_singleton]; exact picks)).trans ((Ent.cons _ (Ds.snoc (x := ⟨⟨((m.idx + k : Nat) : Int) + 1, en.term, en.data⟩, A2, c2⟩) .gr)).trans (RLg.close (i := s.snap) (l := (L.take (m.idx + k) ++ [en]).drop s.snap) (by
          rw [List.map_append, hlesj, List.drop_append_of_le_length (by omega), ents_app, List.length_drop, show s.snap + ((L.take (m.idx + k)).length - s.snap) = m.idx + k by omega]; rfl)))) ?_
        have hfr : fr s.log (lgN s (L.take (m.idx + k) ++ [en])).log = (tf (fr s.log L) (m.idx + k + 1)) := by show fr s.log (L.take (m.idx + k) ++ [en]) = _; rw [f3]; rfl
        rw [RNS.eq (n := ms.length) (sn := (snL ms).length) rfl rfl hfr] at hnext
        have hh3 : RwOk (lgN s (L.take (m.idx + k) ++ [en])) { h with lA := A3, lc := c3, ln := h.ln + 1 } := ⟨by show h.ln + 1 = (L.take _ ++ [en]).length - s.snap; rw [List.length_append, hl2, List.length_singleton]; omega, by rw [htS]; exact (lgN_tm (j := m.idx) hsame2 (by omega)).symm⟩
        refine .rshut (ms := ms) (c := c) (p := p) { h with lA := A3, lc := c3, ln := h.ln + 1 } (lgN s (L.take (m.idx + k) ++ [en])) (rxS ms.length (snL ms).length (tf (fr s.log L) (m.idx + k + 1)) fl) hh3 ?_
        exact .back hnext
  · have hkl : k = m.es.length := by omega
    rw [hkl, List.drop_length] at hmg
    have hm2 : Rs.merge (s.snap + 65536) s.log m.idx m.es = (L, m.idx + m.es.length) := hmg
    rw [hm2]
    dsimp only
    refine run ?_
    rw [hkl]
    exact .retD Tryz.func153
end
end Go.SL
namespace Go.SL
open Go.Proofs Go.Proofs.YtocogcgnahbpkaaGreat
open Rs (Nd)
set_option maxRecDepth 10000
attribute [local irreducible] W RS RG RD Fn FnQ OpS QOp Own Sat Rd Gr Mp Rg Lg Ms Es Nod Rp NodI RLg RMs REs RN RLd RNF
section
variable {c : Cfg} {h : RW} {s : Nd} {x : RX} {p : Nat} {q : Bool} {d : Int} {ms : List Rf.Msg} {m : Rf.Msg} {A : Option Addr} {cp : Nat} {l0 : List Rf.Ent} {fl : Nat × Nat}
def apnd (m : Rf.Msg) (s : Nd) : Nd × List Rf.Msg :=
  if m.idx < s.commit then (s, [Rs.re s m 6 s.term s.commit false 0])
  else if s.fin < m.idx then (s, [Rs.re s m 6 s.term m.idx true s.fin])
  else if s.tm m.idx ≠ m.lt then (s, [Rs.re s m 6 s.term m.idx true (m.idx - 1)])
  else ({ lgN s (Rs.merge (s.snap + 65536) s.log m.idx m.es).1 with commit := max s.commit (min m.commit (Rs.merge (s.snap + 65536) s.log m.idx m.es).2) }, [Rs.re s m 6 s.term (Rs.merge (s.snap + 65536) s.log m.idx m.es).2 false 0])
theorem append_eq : Rs.append c d m s = apnd m (Rs.follow c d m.term m.src s) := rfl
theorem rappend_n {X D : HP} {mes : List LE} (hs : Sn c s) (hm : ms.length ≤ 300) (hX : Reads X A (mes.flatMap encLE)) (hD : DRead D mes) (hmes : mes.map (·.e) = ents m.idx m.es) (hd : ∀ e ∈ m.es, e.data.length ≤ 140737488351232) (hf0 : m.idx = 0 → m.lt = 0) (hfit : m.idx + m.es.length < 65536) (hb : m.commit ≤ 1099511627776) :
    Fn Tryz.prog 126 [pt p, .agg (encM m A cp).toArray].toArray [RNS p c s.log fl s ms, X, D] (Det (.tuple #[]) [RNS p c s.log fl (apnd m s).1 (ms ++ (apnd m s).2), X, D]) := by
  unfold apnd
  have hf := hs.fin
  have hS : ∀ (s' : Nd) (l0 : List Rf.Ent) (i h : Nat) (j : Bool), Fn Tryz.prog 134 _ _ _ := fun s' l0 i h j => rsay_n (p := p) (c := c) (l0 := l0) (fl := fl) (ms := ms) (s := s') (m := { kind := 6, src := 0, dst := m.src, term := 0, idx := i, rej := j, hint := h }) (A := none) (cp := 0) (by omega) (by show 6 ≠ 7; omega)
  refine Fn.enter Tryz.func126 rfl (by kernel_rfl) rfl ?_
  refine run ?_
  refine .box fun z => ?_
  refine run ?_
  refine .new fun z4 => ?_
  refine run ?_
  refine .first (RNS p c s.log fl s ms) ?_
  refine .rn fun h hh => ?_
  have hE : FnQ Tryz.prog 70 [pt p].toArray [Rb true p c h s (rxS ms.length (snL ms).length (fr s.log s.log) fl)] (nv s.log.length) := rend_q (hh.rm hs)
  refine W.plan [] mixed (by rfl) (by kernel_rfl) ?_
  by_cases h1 : m.idx < s.commit
  · rw [if_pos h1]
    refine run ?_
    refine .rshut h s (rxS ms.length (snL ms).length (fr s.log s.log) fl) hh ?_
    refine .ent (nilRLg (i := s.commit)) ?_
    refine .callD (hS s s.log s.commit 0 false) ?_
    refine run ?_
    exact .doneD Tryz.func126
  rw [if_neg h1]
  by_cases h2 : s.fin < m.idx
  · rw [if_pos h2]
    have h2' : s.log.length < m.idx := h2
    refine run ?_
    refine W.plan [3] mixed (by rfl) (by kernel_rfl) ?_
    refine run ?_
    refine .callQ hE ?_
    refine run ?_
    refine .callQ hE ?_
    refine run ?_
    refine .rshut h s (rxS ms.length (snL ms).length (fr s.log s.log) fl) hh ?_
    refine .ent (nilRLg (i := m.idx)) ?_
    refine .callD (hS s s.log m.idx s.log.length true) ?_
    refine run ?_
    exact .doneD Tryz.func126
  rw [if_neg h2]
  have h2' : ¬ s.log.length < m.idx := h2
  have hT := rterm_q (x := rxS ms.length (snL ms).length (fr s.log s.log) fl) (p := p) (q := true) (hh.rm hs) (i := m.idx) (by omega)
  by_cases h3 : s.tm m.idx ≠ m.lt
  · rw [if_pos h3]
    have h4 : m.idx ≠ 0 := fun h4 => h3 (by rw [h4, hf0 h4]; rfl)
    refine run ?_
    refine W.plan [3] mixed (by rfl) (by kernel_rfl) ?_
    refine run ?_
    refine .callQ hE ?_
    refine run ?_
    refine W.plan [3] mixed (by rfl) (by kernel_rfl) ?_
    refine run ?_
    refine .callQ hT ?_
    refine run ?_
    have e1 : ((m.idx : Int) - 1) = ((m.idx - 1 : Nat) : Int) := by omega
    refine .hit 74 rfl (by rw [e1]; rfl : _ = .agg (encM { kind := 6, src := 0, dst := m.src, term := 0, idx := m.idx, rej := true, hint := m.idx - 1 } none 0).toArray) ?_
    refine .rshut h s (rxS ms.length (snL ms).length (fr s.log s.log) fl) hh ?_
    refine .ent (nilRLg (i := m.idx)) ?_
    refine .callD (hS s s.log m.idx (m.idx - 1) true) ?_
    refine run ?_
    exact .doneD Tryz.func126
  rw [if_neg h3]
  have h3' : s.tm m.idx = m.lt := by simpa using h3
  generalize hmg : Rs.merge (s.snap + 65536) s.log m.idx m.es = mg
  have hTk := rtake_ok (p := p) (ms := ms) (fl := fl) (A := A) (cp := cp) hs hX hD hmes hd ⟨by omega, by omega⟩ hfit
  rw [hmg] at hTk
  obtain ⟨L, i⟩ := mg
  dsimp only at hTk ⊢
  refine run ?_
  refine W.plan [3] mixed (by rfl) (by kernel_rfl) ?_
  refine run ?_
  refine .callQ hE ?_
  refine run ?_
  refine W.plan [3] mixed (by rfl) (by kernel_rfl) ?_
  refine run ?_
  refine .callQ hT ?_
  refine run ?_
  refine .rshut h s (rxS ms.length (snL ms).length (fr s.log s.log) fl) hh ?_
  refine .callD hTk ?_
  clear hE hT hh
  clear h
  have hcm : (lgN s L).commit = s.commit := rfl
  by_cases h5 : i < m.commit
  case pos =>
    have e5 : min m.commit i = i := by omega
    rw [e5]
    by_cases h6 : s.commit < i
    · rw [Nat.max_eq_right (by omega : s.commit ≤ i)]
      refine run ?_
      refine .first (RNS p c s.log fl (lgN s L) ms) ?_
      refine .rn fun h hh => ?_
      refine run ?_
      refine .rshut (ms := ms) (c := c) (p := p) h { lgN s L with commit := i } (rxS ms.length (snL ms).length (fr s.log L) fl) hh ?_
      refine .ent (nilRLg (i := i)) ?_
      refine .callD (hS { lgN s L with commit := i } s.log i 0 false) ?_
      refine run ?_
      exact .doneD Tryz.func126
    · rw [Nat.max_eq_left (by omega : i ≤ s.commit)]
      refine run ?_
      refine .first (RNS p c s.log fl (lgN s L) ms) ?_
      refine .rn fun h hh => ?_
      refine run ?_
      refine .rshut (ms := ms) (c := c) (p := p) h { lgN s L with commit := s.commit } (rxS ms.length (snL ms).length (fr s.log L) fl) hh ?_
      refine .ent (nilRLg (i := i)) ?_
      refine .callD (hS { lgN s L with commit := s.commit } s.log i 0 false) ?_
      refine run ?_
      exact .doneD Tryz.func126
  case neg =>
    have e5 : min m.commit i = m.commit := by omega
    rw [e5]
    by_cases h6 : s.commit < m.commit
    · rw [Nat.max_eq_right (by omega : s.commit ≤ m.commit)]
      refine run ?_
      refine .first (RNS p c s.log fl (lgN s L) ms) ?_
      refine .rn fun h hh => ?_
      refine run ?_
      refine .rshut (ms := ms) (c := c) (p := p) h { lgN s L with commit := m.commit } (rxS ms.length (snL ms).length (fr s.log L) fl) hh ?_
      refine .ent (nilRLg (i := i)) ?_
      refine .callD (hS { lgN s L with commit := m.commit } s.log i 0 false) ?_
      refine run ?_
      exact .doneD Tryz.func126
    · rw [Nat.max_eq_left (by omega : m.commit ≤ s.commit)]
      refine run ?_
      refine .first (RNS p c s.log fl (lgN s L) ms) ?_
      refine .rn fun h hh => ?_
      refine run ?_
      refine .rshut (ms := ms) (c := c) (p := p) h { lgN s L with commit := s.commit } (rxS ms.length (snL ms).length (fr s.log L) fl) hh ?_
      refine .ent (nilRLg (i := i)) ?_
      refine .callD (hS { lgN s L with commit := s.commit } s.log i 0 false) ?_
      refine run ?_
      exact .doneD Tryz.func126
end
end Go.SL
