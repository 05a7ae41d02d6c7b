/-
  A part of the proof of what E53 says at its head.
-/
import Derived.Test.YtocogcgnahbpkaaGreatE18
namespace Go.SL
open Go.Proofs Go.Proofs.YtocogcgnahbpkaaGreat
open Rs (Nd)
theorem Gs.take {L : List HP} : ∀ (k : Nat) {l : List LE}, Ent (Gs l :: L) (Gs (l.take k) :: L)
  | 0, l => by rw [List.take_zero]; exact (Ent.drop _).trans (Ent.mk fun _ => trivial)
  | _ + 1, [] => .refl _
  | k + 1, y :: l => (Ent.star (l := [_, _]) (m := L)).trans ((Ent.cons _ (Gs.take k (l := l))).trans (Ent.unstar (l := [_, _]) (m := L)))
theorem Rd.pre {q : Bool} {A : Option Addr} {l : List LE} {r : Res} (k : Nat) (h : Rd q A (l.flatMap encLE) r) : Rd q A ((l.take k).flatMap encLE) r := by
  have h2 := h.part 0 k
  rw [List.drop_zero, Nat.zero_mul] at h2
  cases A with
  | none => exact h2
  | some a =>
    rcases h2 with h3 | ⟨g, off, E, fz, pre, post, h4, h5⟩
    · exact .inl h3
    · refine .inr ⟨g, off, E, fz, pre, post, ?_, h5⟩
      rw [← h4]; simp [adr, Addr.add]
theorem cpl_take : ∀ {l : List Rf.Ent} {n : Nat}, n ≤ l.length → cpl l (l.take n) = n
  | [], 0, _ => rfl
  | _ :: _, 0, _ => rfl
  | a :: l, n + 1, h => by rw [List.take_succ_cons, cpl, if_pos rfl, cpl_take (by simpa using h)]
theorem cpl_cut {new : List Rf.Ent} : ∀ {l : List Rf.Ent} {n : Nat}, n < l.length → (∀ e, new.head? = some e → l[n]? ≠ some e) → cpl l (l.take n ++ new) = n
  | [], n, h, _ => by simp at h
  | a :: l, 0, _, h => by
    cases new with
    | nil => rfl
    | cons e new => rw [List.take_zero, List.nil_append, cpl, if_neg (fun hc => h e rfl (by simp [hc]))]
  | a :: l, n + 1, h, h2 => by rw [List.take_succ_cons, List.cons_append, cpl, if_pos rfl, cpl_cut (by simpa using h) (fun e he => by simpa using h2 e he)]
theorem fr_take {l : List Rf.Ent} {n : Nat} (h : n < l.length) : fr l (l.take n) = n + 1 := by
  unfold fr
  rw [if_neg (fun hc => by have := congrArg List.length hc; rw [List.length_take] at this; omega), cpl_take (by omega)]
theorem fr_cut {l new : List Rf.Ent} {n : Nat} (h : n < l.length) (h2 : ∀ e, new.head? = some e → l[n]? ≠ some e) : fj (fr l (l.take n)) (l.take n).length new = fr l (l.take n ++ new) := by
  cases new with
  | nil => rw [List.append_nil]; rfl
  | cons e new =>
    have hl : (l.take n).length = n := by rw [List.length_take]; omega
    rw [fr_take h, hl]
    unfold fj tf fr
    rw [if_neg (by omega), if_neg (fun hc => h2 e rfl (by
      have : (l.take n ++ e :: new)[n]? = l[n]? := by rw [hc]
      rw [List.getElem?_append_right (by omega), hl] at this
      simpa using this.symm)), cpl_cut h h2]
attribute [local irreducible] W RS RG RD Fn FnQ OpS QOp Own Sat Rd Gr Mp Rg Lg Ms Es Nod Rp
set_option maxRecDepth 10000
section
variable {c : Cfg} {h : HW} {s : Nd} {x : EX} {p bs : Nat} {d : Int} {l0 : List Rf.Ent} {fl : Nat × Nat} {ms : List Rf.Msg} {m : Rf.Msg} {A : Option Addr} {cp : Nat}
theorem merge_go {room : Nat} {log : List Rf.Ent} {e : Rf.Ent} {es : List Rf.Ent} {i : Nat} (h : (log[i]?).map (·.term) = some e.term) : Rs.merge room log i (e :: es) = Rs.merge room log (i + 1) es := by rw [Rs.merge, if_pos h]
theorem merge_cut {room : Nat} {log : List Rf.Ent} {e : Rf.Ent} {es : List Rf.Ent} {i : Nat} (h : (log[i]?).map (·.term) ≠ some e.term) : Rs.merge room log i (e :: es) = (log.take i ++ (e :: es).take (room - (log.take i).length), i + ((e :: es).take (room - (log.take i).length)).length) := by rw [Rs.merge, if_neg h]
theorem tm_succ {s : Nd} {i : Nat} {e : Rf.Ent} (h : s.log[i]? = some e) : s.tm (i + 1) = e.term := by
  unfold Rs.Nd.tm Rf.tmL; rw [if_neg (by omega), Nat.add_sub_cancel, h]; rfl
def cutN (s : Nd) (n : Nat) : Nd := { s with log := s.log.take n }
theorem append_n {X D : HP} {mes : List LE} (hs : Sn c s) (hm : ms.length ≤ 300) (ht : m.term ≤ 1099511627776) (hb : m.commit ≤ 1099511627776 ∧ m.es.length ≤ 64) (hX : Reads X A (mes.flatMap encLE)) (hD : DRead D mes) (hmes : mes.map (·.e) = ents m.idx m.es) (hd : ∀ e ∈ m.es, e.data.length ≤ 140737488351232) (hf0 : m.idx = 0 → m.lt = 0) (hi0 : m.idx + m.es.length ≤ 1099511627776) (hcp : mes.length ≤ cp) :
    Fn Tryz.prog 144 [pt p, .agg (encM m A cp).toArray].toArray [NodS p c bs d s.log fl s ms, X, D] (Det (.tuple #[]) [NodS p c bs d s.log fl (Rs.append c d m s).1 (ms ++ (Rs.append c d m s).2), X, D]) := by
  unfold Rs.append
  have hml := les_len hmes
  refine Fn.enter Tryz.func144 rfl (by kernel_rfl) rfl ?_
  refine run ?_
  refine .box fun z => ?_
  refine run ?_
  refine .callD (follow_n (x := ⟨d, ms.length, fr s.log s.log, fl.1, fl.2⟩) (s := s) (c := c) (p := p) (term := m.term) (leader := m.src) (ms := ms) (bs := bs) hs) ?_
  have hs1 : Sn c (Rs.follow c d m.term m.src s) := hs.mk hs.id (by have := hs.term; show max s.term m.term ≤ _; omega) hs.fin hs.data ⟨by show 0 ≤ _; omega, hs.el.2⟩
  have hl1 : NodS p c bs d s.log fl (Rs.follow c d m.term m.src s) ms = Nod p c bs (Rs.follow c d m.term m.src s) ⟨d, ms.length, fr s.log s.log, fl.1, fl.2⟩ ms := rfl
  have hl2 : (Rs.follow c d m.term m.src s).log = s.log := rfl
  rw [← hl1]
  clear hl1
  generalize Rs.follow c d m.term m.src s = s1 at hs1 hl2
  generalize hl0 : s.log = l0 at hl2
  have hf := hs1.fin
  dsimp only
  refine run ?_
  refine .first (NodS p c bs d l0 fl s1 ms) ?_
  refine .nod fun h hh => ?_
  have hE : FnQ Tryz.prog 57 [pt p].toArray [Nb true p c h s1 ⟨d, ms.length, fr l0 s1.log, fl.1, fl.2⟩] (nv s1.log.length) := end_q (hs1.at hh)
  by_cases h1 : m.idx < s1.commit
  · rw [if_pos h1]
    refine W.plan [] mixed (by rfl) (by kernel_rfl) ?_
    refine run ?_
    refine W.plan [] mixed (by rfl) (by kernel_rfl) ?_
    refine run ?_
    refine .shutS (l0 := l0) h h s1 s1 hh ?_
    refine .callD (reply_n (m := m) (A := A) (cp := cp) (s := s1) (i := s1.commit) (c := c) (p := p) (bs := bs) (d := d) (l0 := l0) (fl := fl) (ms := ms) (by omega)) ?_
    refine run ?_
    exact .retD Tryz.func144
  rw [if_neg h1]
  by_cases h2 : s1.fin < m.idx
  · rw [if_pos h2]
    have h2' : s1.log.length < m.idx := h2
    refine W.plan [] mixed (by rfl) (by kernel_rfl) ?_
    refine run ?_
    refine W.plan [3] mixed (by rfl) (by kernel_rfl) ?_
    refine run ?_
    refine .callQ hE ?_
    refine run ?_
    refine W.plan [3] mixed (by rfl) (by kernel_rfl) ?_
    refine run ?_
    refine .callQ hE ?_
    refine run ?_
    refine .shutS (l0 := l0) h h s1 s1 hh ?_
    refine .callD (reject_n (m := m) (A := A) (cp := cp) (s := s1) (i := s1.log.length) (c := c) (p := p) (bs := bs) (d := d) (l0 := l0) (fl := fl) (ms := ms) (by omega)) ?_
    refine run ?_
    exact .retD Tryz.func144
  rw [if_neg h2]
  have h2' : ¬ s1.log.length < m.idx := h2
  have hT := term_q (x := ⟨d, ms.length, fr l0 s1.log, fl.1, fl.2⟩) (p := p) (q := true) (hs1.at hh) (i := m.idx) (by omega)
  by_cases h3 : s1.tm m.idx ≠ m.lt
  · rw [if_pos h3]
    refine W.plan [] mixed (by rfl) (by kernel_rfl) ?_
    refine run ?_
    refine W.plan [3] mixed (by rfl) (by kernel_rfl) ?_
    refine run ?_
    refine .callQ hE ?_
    refine run ?_
    refine W.plan [3] mixed (by rfl) (by kernel_rfl) ?_
    refine run ?_
    refine .callQ hT ?_
    refine run ?_
    by_cases h4 : m.idx = 0
    · exact absurd (by rw [h4, hf0 h4]; rfl) h3
    refine RS.hit 52 rfl (by congr 1; omega : _ = nv (m.idx - 1)) ?_
    refine .shutS (l0 := l0) h h s1 s1 hh ?_
    refine .callD (reject_n (m := m) (A := A) (cp := cp) (s := s1) (i := m.idx - 1) (c := c) (p := p) (bs := bs) (d := d) (l0 := l0) (fl := fl) (ms := ms) (by omega)) ?_
    refine run ?_
    exact .retD Tryz.func144
  rw [if_neg h3]
  have h3' : s1.tm m.idx = m.lt := by simpa using h3
  refine W.plan [] mixed (by rfl) (by kernel_rfl) ?_
  refine run ?_
  refine W.plan [3] mixed (by rfl) (by kernel_rfl) ?_
  refine run ?_
  refine .callQ hE ?_
  refine run ?_
  refine W.plan [3] mixed (by rfl) (by kernel_rfl) ?_
  refine run ?_
  refine .callQ hT ?_
  refine run ?_
  refine .shutS (l0 := l0) h h s1 s1 hh ?_
  clear hE hT hh
  clear h
  subst hl2
  generalize hroom : s1.snap + 65536 = room
  refine W.loopH (ι := Nat) (fun k => k ≤ m.es.length ∧ m.idx + k ≤ s1.log.length ∧ Rs.merge room s1.log m.idx m.es = Rs.merge room s1.log (m.idx + k) (m.es.drop k)) (fun k => [(0, pt p), (3, pt z), (4, nv (m.idx + k)), (57, .slice A m.es.length cp), (58, nv m.es.length), (59, nv k)])
    (fun k => [NodS p c bs d s1.log fl s1 ms, Blk true z (encM m A cp) 59, X, D]) (fun k => m.es.length - k) 0 ⟨Nat.zero_le _, by omega, rfl⟩ subs (Picks.sub picks) ?_
  rintro k ⟨hk, hki, hmg⟩ ih
  by_cases hlt : k < m.es.length
  · obtain ⟨en, hen⟩ : ∃ en, m.es[k]? = some en := ⟨_, List.getElem?_eq_getElem hlt⟩
    obtain ⟨y, hy⟩ : ∃ y, mes[k]? = some y := ⟨_, List.getElem?_eq_getElem (by omega)⟩
    obtain ⟨en', he1, he2⟩ := les_at hmes hy
    rw [hen] at he1
    injection he1 with he1
    subst he1
    have hdr : m.es.drop k = en :: m.es.drop (k + 1) := by
      obtain ⟨h5, h6⟩ := List.getElem?_eq_some_iff.1 hen
      rw [← h6]; exact List.drop_eq_getElem_cons h5
    rw [hdr] at hmg
    obtain ⟨ye, yA, yc⟩ := y
    dsimp only at he2
    subst he2
    refine .first X ?_
    refine W.fact (fun w h => IsA.of (k := k * 3) hX .hd (by rw [flat_len lenLE]; omega) h) fun hA => ?_
    refine run ?_
    refine .new fun z6 => ?_
    refine run ?_
    refine .first (Blk true z6 [nv (m.idx + k + 1), nv en.term, .slice yA en.data.length yc] 67) ?_
    refine .first (NodS p c bs d s1.log fl s1 ms) ?_
    refine .nod fun h hh => ?_
    have hE : FnQ Tryz.prog 57 [pt p].toArray [Nb true p c h s1 ⟨d, ms.length, fr s1.log s1.log, fl.1, fl.2⟩] (nv s1.log.length) := end_q (hs1.at hh)
    refine W.plan [3, 9] mixed (by rfl) (by kernel_rfl) ?_
    refine run ?_
    refine .callQ hE ?_
    by_cases hmt : (s1.log[m.idx + k]?).map (·.term) = some en.term
    · obtain ⟨e5, h5, h6⟩ := Option.map_eq_some_iff.1 hmt
      have h7 := (List.getElem?_eq_some_iff.1 h5).1
      have h8 : s1.tm (m.idx + k + 1) = en.term := by rw [tm_succ h5, h6]
      refine run ?_
      refine .callQ (term_q (x := ⟨d, ms.length, fr s1.log s1.log, fl.1, fl.2⟩) (p := p) (q := true) (hs1.at hh) (i := m.idx + k + 1) (by omega)) ?_
      refine run ?_
      refine .shutS (l0 := s1.log) h h s1 s1 hh ?_
      exact .back (ih (k + 1) ⟨by omega, by omega, by rw [hmg, merge_go hmt]; rfl⟩ (by omega))
    · by_cases hq : m.idx + k < s1.log.length
      · have h5 : s1.log[m.idx + k]? = some s1.log[m.idx + k] := List.getElem?_eq_getElem hq
        have h8 : s1.tm (m.idx + k + 1) ≠ en.term := fun hc => hmt (by rw [h5]; rw [tm_succ h5] at hc; rw [← hc]; rfl)
        refine run ?_
        refine .callQ (term_q (x := ⟨d, ms.length, fr s1.log s1.log, fl.1, fl.2⟩) (p := p) (q := true) (hs1.at hh) (i := m.idx + k + 1) (by omega)) ?_
        refine run ?_
        refine W.plan [3] mixed (by rfl) (by kernel_rfl) ?_
        refine run ?_
        refine .callQ hE ?_
        refine run ?_
        refine .first (LgN h s1) ?_
        refine .lg fun les hles => ?_
        have hlen := les_len hles
        rw [List.length_drop] at hlen
        have hln := hh.1
        refine W.fact (fun w h => Gr.cap h) fun hcap => ?_
        refine W.plan [] mixed (by rfl) (by kernel_rfl) ?_
        refine run ?_
        refine RG.hit 97 rfl (by congr 1; omega : _ = nv (m.idx + k - s1.snap)) ?_
        refine RG.takeP rfl rfl rfl rfl (Q.sliceTo (hi := m.idx + k - s1.snap) rfl rfl rfl rfl rfl rfl (by omega)) ?_
        generalize hj : m.idx + k - s1.snap = j
        have hlj : (les.take j).length = j := by rw [List.length_take]; omega
        have hXc : Reads (Gr 3 67 h.lA h.ln h.lc (les.flatMap encLE)) h.lA ((les.take j).flatMap encLE) := fun r hr => Rd.pre j hr.rd.lend
        have hEc := eclone_ok (cp := h.lc) hXc (by omega)
        rw [hlj] at hEc
        refine run ?_
        refine .callE hEc ?_
        rintro v L ⟨A', c', rfl, rfl⟩
        refine run ?_
        refine .callD (turned_ok (c := c) (h := { h with lA := A', lc := c', ln := j }) (s := cutN s1 (m.idx + k)) (x := ⟨d, ms.length, fr s1.log s1.log, fl.1, fl.2⟩) (p := p) (i := m.idx + k + 1)) ?_
        refine run ?_
        refine .ent ((Picks.ent (a := [Gs les, Gr 3 67 A' j c' ((les.take j).flatMap encLE)]) picks).trans ((Gs.take j).trans ((Ent.perm (.swap _ _ _)).trans (Lg.close (i := s1.snap) (l := (cutN s1 (m.idx + k)).log.drop s1.snap) (by
          rw [List.map_take, hles, ents_take]; show _ = ents s1.snap ((s1.log.take (m.idx + k)).drop s1.snap); rw [List.drop_take, hj]))))) ?_
        have hh2 : HwOk bs (cutN s1 (m.idx + k)) { h with lA := A', lc := c', ln := j } := by
          refine ⟨?_, ?_, hh.2.2⟩
          · show j = (s1.log.take _).length - s1.snap; rw [List.length_take]; omega
          · rw [show h.tS = s1.tm s1.snap from hh.2.1]
            show Rf.tmL s1.log s1.snap = Rf.tmL (s1.log.take (m.idx + k)) s1.snap
            unfold Rf.tmL
            by_cases h0 : s1.snap = 0
            · rw [if_pos h0, if_pos h0]
            · rw [if_neg h0, if_neg h0, List.getElem?_take_of_lt (by omega)]
        have eN : NodS p c bs d s1.log fl (cutN s1 (m.idx + k)) ms = Nod p c bs (cutN s1 (m.idx + k)) ⟨d, ms.length, m.idx + k + 1, fl.1, fl.2⟩ ms := NodS.eq rfl (fr_take hq)
        have e0 : (if fr s1.log s1.log = 0 ∨ m.idx + k + 1 < fr s1.log s1.log then m.idx + k + 1 else fr s1.log s1.log) = m.idx + k + 1 := by rw [fr_self, if_pos (.inl rfl)]
        dsimp only
        rw [e0]
        refine .shut (x := ⟨d, ms.length, m.idx + k + 1, fl.1, fl.2⟩) (c := c) (p := p) (bs := bs) (ms := ms) { h with lA := A', lc := c', ln := j } h (cutN s1 (m.idx + k)) s1 hh2 ?_
        rw [← eN]
        clear hh2 hh hE hEc hXc hcap hlen hles hln hlj
        have hcutS : Sn c (cutN s1 (m.idx + k)) := hs1.mk hs1.id hs1.term ⟨hf.1, by show s1.commit ≤ (s1.log.take _).length; rw [List.length_take]; omega, by show (s1.log.take _).length ≤ _; rw [List.length_take]; omega, by show (s1.log.take _).length ≤ s1.snap + _; rw [List.length_take]; omega⟩ (fun e he => hs1.data e (List.mem_of_mem_take he)) hs1.el
        refine .quiet rfl rfl rfl (Q.sliceFrom (lo := k) rfl rfl rfl rfl rfl rfl (by omega)) ?_
        refine run ?_
        refine .first (NodS p c bs d s1.log fl (cutN s1 (m.idx + k)) ms) ?_
        refine .nod fun h hh => ?_
        have hln := hh.1
        have hclen : (cutN s1 (m.idx + k)).log.length = m.idx + k := by show (s1.log.take _).length = _; rw [List.length_take]; omega
        have hln' : h.ln = m.idx + k - s1.snap := by rw [hln, hclen]; rfl
        generalize hA1 : (if cp = k then A else adr A (k * 3)) = A1
        refine run ?_
        refine RS.hit 119 rfl (by congr 1; omega : _ = nv (min (m.es.length - k) (room - (m.idx + k)))) ?_
        refine .quiet rfl rfl rfl (Q.sliceTo (hi := min (m.es.length - k) (room - (m.idx + k))) rfl rfl rfl rfl rfl rfl (by omega)) ?_
        refine run ?_
        have hnl : ((m.es.drop k).take (room - (m.idx + k))).length = min (m.es.length - k) (room - (m.idx + k)) := by rw [List.length_take, List.length_drop]; omega
        have hsubl : ((mes.drop k).take (room - (m.idx + k))).length = min (m.es.length - k) (room - (m.idx + k)) := by rw [List.length_take, List.length_drop]; omega
        have hXs : Reads X A1 (((mes.drop k).take (room - (m.idx + k))).flatMap encLE) := fun r hr => by
          rw [← hA1]
          split
          · rw [List.drop_eq_nil_of_le (by omega), List.take_nil]; exact Rd.nil
          · exact (hX r hr).part k _
        have hDs : DRead D ((mes.drop k).take (room - (m.idx + k))) := fun r hr => (hD r hr).sub fun x hx => List.mem_of_mem_drop (List.mem_of_mem_take hx)
        have hsub : ((mes.drop k).take (room - (m.idx + k))).map (·.e) = ents (cutN s1 (m.idx + k)).log.length ((m.es.drop k).take (room - (m.idx + k))) := by
          rw [hclen, List.map_take, List.map_drop, hmes, ents_drop, ents_take]
        rw [← hsubl]
        refine .shutS (l0 := s1.log) h h (cutN s1 (m.idx + k)) (cutN s1 (m.idx + k)) hh ?_
        refine .callD (join_n (s := cutN s1 (m.idx + k)) (A := A1) (cp := cp - k) (l := (mes.drop k).take (room - (m.idx + k))) (new := (m.es.drop k).take (room - (m.idx + k))) (X := X) (D := D) (c := c) (p := p) (bs := bs) (d := d) (l0 := s1.log) (fl := fl) (ms := ms) hcutS hXs hDs hsub (by rw [hclen, hnl]; show m.idx + k - s1.snap + _ ≤ _; omega) (fun e he => hd e (List.mem_of_mem_drop (List.mem_of_mem_take he))) ?_) ?_
        · show fj (fr s1.log (s1.log.take (m.idx + k))) (s1.log.take (m.idx + k)).length _ = fr s1.log (s1.log.take (m.idx + k) ++ _)
          by_cases hq : m.idx + k < s1.log.length
          · refine fr_cut hq fun e he hc => hmt ?_
            rw [hdr] at he
            rw [hc]
            have : e = en := by
              cases hz : room - (m.idx + k) with
              | zero => rw [hz] at he; simp at he
              | succ n => rw [hz] at he; simpa using he.symm
            rw [this]; rfl
          · have := fj_fr (l := s1.log) (a := []) (m := (m.es.drop k).take (room - (m.idx + k)))
            rw [List.append_nil] at this
            rw [List.take_of_length_le (by omega)]; exact this
        have hmc := merge_cut (room := room) (es := m.es.drop (k + 1)) hmt
        rw [← hdr] at hmc
        have hmg2 := hmg
        rw [← hdr, hmc, List.length_take, Nat.min_eq_left hki] at hmg2
        rw [hmg2]
        dsimp only
        rw [hnl]
        have hup : Sn c (upN (cutN s1 (m.idx + k)) ((m.es.drop k).take (room - (m.idx + k)))) := hcutS.up (by rw [hclen, hnl]; omega) (by rw [hclen, hnl]; show _ ≤ s1.snap + _; omega) (fun e he => hd e (List.mem_of_mem_drop (List.mem_of_mem_take he)))
        have hul : (upN (cutN s1 (m.idx + k)) ((m.es.drop k).take (room - (m.idx + k)))).log.length = m.idx + k + min (m.es.length - k) (room - (m.idx + k)) := by show ((cutN s1 (m.idx + k)).log ++ _).length = _; rw [List.length_append, hclen, hnl]
        refine run ?_
        refine .callQ (v := nv (m.idx + k + min (m.es.length - k) (room - (m.idx + k)))) (by rw [← hul]; exact end_n (x := ⟨d, ms.length, fr s1.log (upN (cutN s1 (m.idx + k)) ((m.es.drop k).take (room - (m.idx + k)))).log, fl.1, fl.2⟩) (ms := ms) (p := p) (bs := bs) hup) ?_
        refine run ?_
        refine .first (NodS p c bs d s1.log fl (upN (cutN s1 (m.idx + k)) ((m.es.drop k).take (room - (m.idx + k)))) ms) ?_
        refine .nod fun h hh => ?_
        refine W.plan [] mixed (by rfl) (by kernel_rfl) ?_
        refine run ?_
        rw [show (max (((upN (cutN s1 (m.idx + k)) ((m.es.drop k).take (room - (m.idx + k)))).commit : Nat) : Int) (min (m.commit : Int) ((m.idx + k + min (m.es.length - k) (room - (m.idx + k)) : Nat) : Int))) = ((max (upN (cutN s1 (m.idx + k)) ((m.es.drop k).take (room - (m.idx + k)))).commit (min m.commit (m.idx + k + min (m.es.length - k) (room - (m.idx + k)))) : Nat) : Int) by omega]
        refine .shutS (l0 := s1.log) h h { upN (cutN s1 (m.idx + k)) ((m.es.drop k).take (room - (m.idx + k))) with commit := max (upN (cutN s1 (m.idx + k)) ((m.es.drop k).take (room - (m.idx + k)))).commit (min m.commit (m.idx + k + min (m.es.length - k) (room - (m.idx + k)))) } (upN (cutN s1 (m.idx + k)) ((m.es.drop k).take (room - (m.idx + k)))) hh ?_
        refine .callD (reply_n (m := m) (A := A) (cp := cp) (s := { upN (cutN s1 (m.idx + k)) ((m.es.drop k).take (room - (m.idx + k))) with commit := max (upN (cutN s1 (m.idx + k)) ((m.es.drop k).take (room - (m.idx + k)))).commit (min m.commit (m.idx + k + min (m.es.length - k) (room - (m.idx + k)))) }) (i := m.idx + k + min (m.es.length - k) (room - (m.idx + k))) (c := c) (p := p) (bs := bs) (d := d) (l0 := s1.log) (fl := fl) (ms := ms) (by omega)) ?_
        refine run ?_
        exact .doneD Tryz.func144
      · refine run ?_
        refine W.plan [3] mixed (by rfl) (by kernel_rfl) ?_
        refine run ?_
        refine .callQ hE ?_
        refine run ?_
        refine .shutS (l0 := s1.log) h h s1 s1 hh ?_
        have eC : cutN s1 (m.idx + k) = s1 := by unfold cutN; rw [List.take_of_length_le (by omega)]
        have eN : NodS p c bs d s1.log fl s1 ms = NodS p c bs d s1.log fl (cutN s1 (m.idx + k)) ms := by rw [eC]
        rw [eN]
        clear hh hE
        have hcutS : Sn c (cutN s1 (m.idx + k)) := hs1.mk hs1.id hs1.term ⟨hf.1, by show s1.commit ≤ (s1.log.take _).length; rw [List.length_take]; omega, by show (s1.log.take _).length ≤ _; rw [List.length_take]; omega, by show (s1.log.take _).length ≤ s1.snap + _; rw [List.length_take]; omega⟩ (fun e he => hs1.data e (List.mem_of_mem_take he)) hs1.el
        refine .quiet rfl rfl rfl (Q.sliceFrom (lo := k) rfl rfl rfl rfl rfl rfl (by omega)) ?_
        refine run ?_
        refine .first (NodS p c bs d s1.log fl (cutN s1 (m.idx + k)) ms) ?_
        refine .nod fun h hh => ?_
        have hln := hh.1
        have hclen : (cutN s1 (m.idx + k)).log.length = m.idx + k := by show (s1.log.take _).length = _; rw [List.length_take]; omega
        have hln' : h.ln = m.idx + k - s1.snap := by rw [hln, hclen]; rfl
        generalize hA1 : (if cp = k then A else adr A (k * 3)) = A1
        refine run ?_
        refine RS.hit 119 rfl (by congr 1; omega : _ = nv (min (m.es.length - k) (room - (m.idx + k)))) ?_
        refine .quiet rfl rfl rfl (Q.sliceTo (hi := min (m.es.length - k) (room - (m.idx + k))) rfl rfl rfl rfl rfl rfl (by omega)) ?_
        refine run ?_
        have hnl : ((m.es.drop k).take (room - (m.idx + k))).length = min (m.es.length - k) (room - (m.idx + k)) := by rw [List.length_take, List.length_drop]; omega
        have hsubl : ((mes.drop k).take (room - (m.idx + k))).length = min (m.es.length - k) (room - (m.idx + k)) := by rw [List.length_take, List.length_drop]; omega
        have hXs : Reads X A1 (((mes.drop k).take (room - (m.idx + k))).flatMap encLE) := fun r hr => by
          rw [← hA1]
          split
          · rw [List.drop_eq_nil_of_le (by omega), List.take_nil]; exact Rd.nil
          · exact (hX r hr).part k _
        have hDs : DRead D ((mes.drop k).take (room - (m.idx + k))) := fun r hr => (hD r hr).sub fun x hx => List.mem_of_mem_drop (List.mem_of_mem_take hx)
        have hsub : ((mes.drop k).take (room - (m.idx + k))).map (·.e) = ents (cutN s1 (m.idx + k)).log.length ((m.es.drop k).take (room - (m.idx + k))) := by
          rw [hclen, List.map_take, List.map_drop, hmes, ents_drop, ents_take]
        rw [← hsubl]
        refine .shutS (l0 := s1.log) h h (cutN s1 (m.idx + k)) (cutN s1 (m.idx + k)) hh ?_
        refine .callD (join_n (s := cutN s1 (m.idx + k)) (A := A1) (cp := cp - k) (l := (mes.drop k).take (room - (m.idx + k))) (new := (m.es.drop k).take (room - (m.idx + k))) (X := X) (D := D) (c := c) (p := p) (bs := bs) (d := d) (l0 := s1.log) (fl := fl) (ms := ms) hcutS hXs hDs hsub (by rw [hclen, hnl]; show m.idx + k - s1.snap + _ ≤ _; omega) (fun e he => hd e (List.mem_of_mem_drop (List.mem_of_mem_take he))) ?_) ?_
        · show fj (fr s1.log (s1.log.take (m.idx + k))) (s1.log.take (m.idx + k)).length _ = fr s1.log (s1.log.take (m.idx + k) ++ _)
          by_cases hq : m.idx + k < s1.log.length
          · refine fr_cut hq fun e he hc => hmt ?_
            rw [hdr] at he
            rw [hc]
            have : e = en := by
              cases hz : room - (m.idx + k) with
              | zero => rw [hz] at he; simp at he
              | succ n => rw [hz] at he; simpa using he.symm
            rw [this]; rfl
          · have := fj_fr (l := s1.log) (a := []) (m := (m.es.drop k).take (room - (m.idx + k)))
            rw [List.append_nil] at this
            rw [List.take_of_length_le (by omega)]; exact this
        have hmc := merge_cut (room := room) (es := m.es.drop (k + 1)) hmt
        rw [← hdr] at hmc
        have hmg2 := hmg
        rw [← hdr, hmc, List.length_take, Nat.min_eq_left hki] at hmg2
        rw [hmg2]
        dsimp only
        rw [hnl]
        have hup : Sn c (upN (cutN s1 (m.idx + k)) ((m.es.drop k).take (room - (m.idx + k)))) := hcutS.up (by rw [hclen, hnl]; omega) (by rw [hclen, hnl]; show _ ≤ s1.snap + _; omega) (fun e he => hd e (List.mem_of_mem_drop (List.mem_of_mem_take he)))
        have hul : (upN (cutN s1 (m.idx + k)) ((m.es.drop k).take (room - (m.idx + k)))).log.length = m.idx + k + min (m.es.length - k) (room - (m.idx + k)) := by show ((cutN s1 (m.idx + k)).log ++ _).length = _; rw [List.length_append, hclen, hnl]
        refine run ?_
        refine .callQ (v := nv (m.idx + k + min (m.es.length - k) (room - (m.idx + k)))) (by rw [← hul]; exact end_n (x := ⟨d, ms.length, fr s1.log (upN (cutN s1 (m.idx + k)) ((m.es.drop k).take (room - (m.idx + k)))).log, fl.1, fl.2⟩) (ms := ms) (p := p) (bs := bs) hup) ?_
        refine run ?_
        refine .first (NodS p c bs d s1.log fl (upN (cutN s1 (m.idx + k)) ((m.es.drop k).take (room - (m.idx + k)))) ms) ?_
        refine .nod fun h hh => ?_
        refine W.plan [] mixed (by rfl) (by kernel_rfl) ?_
        refine run ?_
        rw [show (max (((upN (cutN s1 (m.idx + k)) ((m.es.drop k).take (room - (m.idx + k)))).commit : Nat) : Int) (min (m.commit : Int) ((m.idx + k + min (m.es.length - k) (room - (m.idx + k)) : Nat) : Int))) = ((max (upN (cutN s1 (m.idx + k)) ((m.es.drop k).take (room - (m.idx + k)))).commit (min m.commit (m.idx + k + min (m.es.length - k) (room - (m.idx + k)))) : Nat) : Int) by omega]
        refine .shutS (l0 := s1.log) h h { upN (cutN s1 (m.idx + k)) ((m.es.drop k).take (room - (m.idx + k))) with commit := max (upN (cutN s1 (m.idx + k)) ((m.es.drop k).take (room - (m.idx + k)))).commit (min m.commit (m.idx + k + min (m.es.length - k) (room - (m.idx + k)))) } (upN (cutN s1 (m.idx + k)) ((m.es.drop k).take (room - (m.idx + k)))) hh ?_
        refine .callD (reply_n (m := m) (A := A) (cp := cp) (s := { upN (cutN s1 (m.idx + k)) ((m.es.drop k).take (room - (m.idx + k))) with commit := max (upN (cutN s1 (m.idx + k)) ((m.es.drop k).take (room - (m.idx + k)))).commit (min m.commit (m.idx + k + min (m.es.length - k) (room - (m.idx + k)))) }) (i := m.idx + k + min (m.es.length - k) (room - (m.idx + k))) (c := c) (p := p) (bs := bs) (d := d) (l0 := s1.log) (fl := fl) (ms := ms) (by omega)) ?_
        refine run ?_
        exact .doneD Tryz.func144
  · have hkl : k = m.es.length := by omega
    subst hkl
    rw [List.drop_length, Rs.merge] at hmg
    rw [hmg]
    dsimp only
    refine run ?_
    refine .first (NodS p c bs d s1.log fl (s1) ms) ?_
    refine .nod fun h hh => ?_
    refine W.plan [] mixed (by rfl) (by kernel_rfl) ?_
    refine run ?_
    rw [show (max (((s1).commit : Nat) : Int) (min (m.commit : Int) ((m.idx + m.es.length : Nat) : Int))) = ((max (s1).commit (min m.commit (m.idx + m.es.length)) : Nat) : Int) by omega]
    refine .shutS (l0 := s1.log) h h { s1 with commit := max (s1).commit (min m.commit (m.idx + m.es.length)) } (s1) hh ?_
    refine .callD (reply_n (m := m) (A := A) (cp := cp) (s := { s1 with commit := max (s1).commit (min m.commit (m.idx + m.es.length)) }) (i := m.idx + m.es.length) (c := c) (p := p) (bs := bs) (d := d) (l0 := s1.log) (fl := fl) (ms := ms) (by omega)) ?_
    refine run ?_
    exact .doneD Tryz.func144
end
end Go.SL
