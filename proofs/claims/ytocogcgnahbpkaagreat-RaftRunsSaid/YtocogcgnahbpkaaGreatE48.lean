/-
  A part of the proof of what E53 says at its head.
-/
import Derived.Test.YtocogcgnahbpkaaGreatE47
namespace Go.Proofs.YtocogcgnahbpkaaGreat.Rs
open Rf (Ent Msg Cfg tmL Maj upTo nodup_le)
section
variable {n : Nat} {nd : Nat → Nd} {g g0 : Gh} {net : List Msg} {i : Nat} {s s' : Nd} {ms ms' : List Msg} {c : Cfg} {draw : Int} {m : Msg}
theorem ext_grow {T : Nat} {L : List Ent} (hterm : s'.term = s.term) (hpre : g.llog T <+: L) (hack : g.ack T i ≤ L.length) (hlid : g.lid T = 0 ∨ g.lid T = i) : Ext (setN nd i s) (setN (setN nd i s) i s') g (g.grow T i L) := by
  refine ⟨setN_le (by rw [setN_at, hterm]; exact Nat.le_refl _), fun t q => ?_, fun t k hk => ?_, fun t ht => ?_, fun _ _ _ => rfl, fun _ _ _ => rfl, fun _ _ _ _ => rfl, fun _ _ _ => rfl, fun _ _ _ => rfl, rfl⟩
  · show g.ack t q ≤ upd2 g.ack T i L.length t q
    by_cases hx : t = T ∧ q = i
    · obtain ⟨rfl, rfl⟩ := hx; rw [upd2_at]; exact hack
    · rw [upd2_ne _ _ hx]; exact Nat.le_refl _
  · show k ≤ (upd1 g.llog T L t).length ∧ (upd1 g.llog T L t).take k = _
    by_cases hx : t = T
    · subst hx; rw [upd1_at]; exact ⟨Nat.le_trans hk hpre.length_le, take_pre hpre hk⟩
    · rw [upd1_ne _ _ hx]; exact ⟨hk, rfl⟩
  · show upd1 g.lid T i t = _
    by_cases hx : t = T
    · subst hx; rw [upd1_at]; exact (hlid.resolve_left ht).symm
    · rw [upd1_ne _ _ hx]
theorem Good.leadBy (hG : Good n nd i net g0 s ms) (hr : s.role = 3) (hm : n < 2 * s.gr.length) (L : List Ent) (hpre : s.log <+: L) (hnew : ∀ k, s.log.length < k → k ≤ L.length → tmL L k = s.term) (hone : L.length ≤ s.log.length + 1)
    (hid : s'.id = s.id) (hterm : s'.term = s.term) (hvote : s'.vote = s.vote) (hlog : s'.log = L) (hsn : s'.snap = s.snap) (hcm : s'.commit = s.commit) (hrole : s'.role = 4) (hmt : ∀ p, s'.mt p = 0) (hnx : ∀ p, 1 ≤ s'.nx p ∧ s'.nx p ≤ L.length + 1) : Good n nd i net g0 s' ms := by
  have hi := hG.1
  refine hG.to fun g hI => ?_
  have hN := hI.at_
  obtain ⟨hv, hcT, ⟨hnd, hgr⟩, hcl⟩ := hN.cand hr
  have hMaj : Maj n s.gr := ⟨hnd, fun q hq => (hgr q hq).1, hm⟩
  have hlid : g.lid s.term = 0 := by
    refine Classical.byContradiction fun hne => ?_
    obtain ⟨R, hR, hq⟩ := (hI.gh.llQ s.term hne).2.2
    obtain ⟨x, hx1, hx2⟩ := hMaj.meet hR
    have := hq x hx2
    rw [(hgr x hx1).2] at this
    exact hcT this.symm
  have hself : g.voted s.term i = i := by rw [hN.voteN, hv]
  obtain ⟨_, _, _, hcA, _⟩ := hI.gh.votes s.term i i (by omega) hself
  have hT1 : 1 ≤ s.term := by have := hcA.2 0; omega
  have hat : setN nd i s i = s := setN_at ..
  obtain ⟨hK, hE, k1, k2⟩ := hI.kill (T := s.term) (c := i) (L := L) (by omega) hMaj (fun q hq => (hgr q hq).2) fun t k ht hl hh => by
    have := hcl t k ht hl hh
    exact ⟨Nat.le_trans this.1 hpre.length_le, by rw [take_pre hpre this.1]; exact this.2⟩
  have hll : g.llog s.term = [] := (hI.gh.llN _ hlid).1
  refine ⟨(g.kill s.term L s.gr).grow s.term i L, ?_, ?_⟩
  · have := hK.grow (i := i) (s := s') (L := L) hi (by rw [hat]; exact hT1) (by rw [hid]; exact hN.id) (by rw [hat]; exact hterm) (by rw [hat]; exact hvote) (by rw [hat]; exact hcm) (by rw [hat]; exact hsn) hrole hlog
      (by rw [hat]; show g.llog s.term <+: L; rw [hll]; exact List.nil_prefix) (by rw [hat]; exact hpre) (by rw [hat]; exact hnew) (by rw [hat]; exact .inl hlid) (by rw [hat]; exact ⟨hself, _, hMaj, fun q hq => (hgr q hq).2⟩) (by rw [hat]; exact k1) (by rw [hat]; exact k2)
      (by
        rw [hat]
        show L.length ≤ s.term + 16 * g.pn
        rcases Nat.eq_zero_or_pos s.log.length with h0 | h0
        · omega
        · obtain ⟨_, a, b, _⟩ := hN.logA _ h0 (Nat.le_refl _)
          have h1 := hI.gh.len (tmL s.log s.log.length)
          have h2 := hN.logT s.log.length
          have h3 : tmL s.log s.log.length ≠ s.term := fun h => a (by rw [h]; exact hlid)
          omega)
      fun p _ => by rw [hmt p]; exact ⟨fun j h1 h2 => by omega, (hnx p).1, (hnx p).2⟩
    rw [hat] at this
    exact this
  · refine hE.trans (ext_grow hterm ?_ ?_ (.inl hlid))
    · show g.llog s.term <+: L; rw [hll]; exact List.nil_prefix
    · show g.ack s.term i ≤ _; rw [(hI.gh.llN _ hlid).2]; exact Nat.zero_le _
theorem Good.lead (hG : Good n nd i net g0 s ms) (hb : c.batch ≤ 16) (hn : c.n = n) (h5 : n ≤ 5) (hr : s.role = 3) (hm : maj c s.gr.length = true) : Good n nd i net g0 (lead c s).1 (ms ++ (lead c s).2) := by
  have hm' : n < 2 * s.gr.length := by rw [← hn]; exact of_decide_eq_true hm
  unfold Rs.lead
  simp only
  by_cases hf : Nd.fin { s with role := 4, leader := s.id, heir := 0, elapsed := 0, beat := 0, mt := fun _ => 0, nx := fun _ => s.fin + 1, hd := [] } < 1099511627776
  · rw [if_pos hf]
    refine Good.apps (Good.count (hG.leadBy hr hm' (s.log ++ [⟨s.term, []⟩]) (List.prefix_append ..) (fun k h1 h2 => ?_) (by simp) rfl rfl rfl rfl rfl rfl rfl (fun _ => rfl) (fun p => ?_)) hn rfl) hb hn h5 rfl
    · have hk : k = s.log.length + 1 := by rw [List.length_append] at h2; simp at h2; omega
      subst hk
      simp [tmL]
    · show 1 ≤ s.log.length + 1 ∧ s.log.length + 1 ≤ _
      rw [List.length_append]; simp
  · rw [if_neg hf]
    refine Good.apps (Good.count (hG.leadBy hr hm' s.log (List.prefix_refl _) (fun k h1 h2 => by omega) (Nat.le_succ _) rfl rfl rfl rfl rfl rfl rfl (fun _ => rfl) (fun p => ?_)) hn rfl) hb hn h5 rfl
    show 1 ≤ s.log.length + 1 ∧ s.log.length + 1 ≤ _
    omega
theorem ext_cast (ht : s'.term = s.term) {d : Nat} {l : List Ent} (hv : g.voted s.term i = 0) : Ext (setN nd i s) (setN (setN nd i s) i s') g (g.cast s.term i d l) := by
  have hkeep : ∀ t q, g.voted t q ≠ 0 → ¬ (t = s.term ∧ q = i) := fun t q hne he => hne (by rw [he.1, he.2]; exact hv)
  refine ⟨setN_le (by rw [setN_at, ht]; exact Nat.le_refl _), fun _ _ => Nat.le_refl _, fun _ _ x => ⟨x, rfl⟩, fun _ _ => rfl, fun t q x => upd2_ne _ _ (hkeep t q x), fun t q x => upd2_ne _ _ fun y => ?_, fun t q x hd => ?_, fun t q x => upd2_ne _ _ (hkeep t q x), fun _ _ _ => rfl, rfl⟩
  · rw [y.1, y.2, setN_at] at x; exact Nat.lt_irrefl _ x
  · show (if d = i then upd2 g.clog s.term i l else g.clog) t q = _
    split
    · exact upd2_ne _ _ (hkeep t q (by omega))
    · rfl
theorem clog_cast {T : Nat} {l : List Ent} : (g.cast T i i l).clog T i = l := by
  unfold Gh.cast
  simp only [if_pos]
  exact upd2_at ..
theorem Good.cast (hG : Good n nd i net g0 s ms) (d : Nat) (hd : 1 ≤ d ∧ d ≤ n) (hid : s'.id = s.id) (hterm : s'.term = s.term) (hlog : s'.log = s.log) (hcm : s'.commit = s.commit) (hsn : s'.snap = s.snap) (hwas : s.vote = 0) (hv : s'.vote = d)
    (hT : d = i → ∀ k, tmL s.log k < s.term) (hc : ∀ g, Inv n (setN nd i s) (net ++ ms) g → d ≠ i → g.voted s.term d = d ∧ upTo (g.clog s.term d) s.log)
    (h4 : s'.role = 4 → s.role = 4 ∧ s'.mt = s.mt ∧ s'.nx = s.nx) (h3 : s'.role = 3 → d = i ∧ s'.gr = [i]) : Good n nd i net g0 s' ms := by
  have hi := hG.1
  refine hG.to fun g hI => ⟨g.cast s.term i d s.log, ?_, ?_⟩
  · have hat : setN nd i s i = s := setN_at ..
    have := hI.cast (s := s') d hi hd (by rw [hid]; exact hI.at_.id) (by rw [hat]; exact hterm) (by rw [hat]; exact hlog) (by rw [hat]; exact hcm) (by rw [hat]; exact hsn) (by rw [hat]; exact hwas) hv (by rw [hat]; exact hT) (by rw [hat]; exact hc g hI) (by rw [hat]; exact h4) h3
    rw [hat] at this
    exact this
  · exact ext_cast hterm (by rw [hI.at_.voteN]; exact hwas)
theorem asks_ok {k h : Nat} (hk : k = 1 ∨ k = 3) {T : Nat} (hT : 1 ≤ T) (hn : c.n = n) (hI : Inv n (setN nd i s) net g) (hi : 1 ≤ i ∧ i ≤ n) (hTs : s.term ≤ T)
    (hv : k = 3 → T = s.term ∧ g.voted T i = i ∧ g.clog T i = s.log) (h1 : k = 1 → T = s.term + 1) {p : Nat} (hp : p ∈ others c s.id) : MsgOK n (mu nd i s) g { kind := k, src := s.id, dst := p, term := T, idx := s.fin, lt := s.tm s.fin, hint := h } ∧ s.id = i ∧ termOf { kind := k, src := s.id, dst := p, term := T, idx := s.fin, lt := s.tm s.fin, hint := h } s.term := by
  have hN := hI.at_
  have hid := hN.id
  rw [hid] at hp
  obtain ⟨hp1, hp2⟩ := mem_others.1 hp
  rw [hn] at hp1
  have hne : ∀ j, k = j → j ≠ 1 → j ≠ 3 → False := fun j e => by omega
  refine ⟨⟨⟨by show 1 ≤ k ∧ k ≤ 8; omega, by show s.id ≠ p; rw [hid]; exact fun h => hp2 h.symm, hT, Nat.le_trans (hN.logT _) hTs, fun _ => ⟨fun h => ?_, fun h => ?_⟩, fun _ => rfl, Nat.zero_le _, fun h => (hne 6 h (by decide) (by decide)).elim, fun h => (hne 7 h (by decide) (by decide)).elim⟩, ⟨by show 1 ≤ s.id ∧ s.id ≤ n; rw [hid]; exact hi, hp1⟩, fun h => ?_, fun h => (hne 4 h (by decide) (by decide)).elim, fun h => (h.elim (fun h => hne 5 h (by decide) (by decide)) fun h => hne 7 h (by decide) (by decide)).elim, fun h => (hne 7 h (by decide) (by decide)).elim, fun h => (hne 6 h (by decide) (by decide)).elim⟩, hid, fun h => Nat.le_of_eq (h1 h), fun h => (hne 2 h (by decide) (by decide)).elim, fun h => ?_⟩
  · have h : tmL s.log s.log.length = 0 := h
    rcases Nat.eq_zero_or_pos s.log.length with h0 | h0
    · exact h0
    · have := hN.logA.pos h0 (Nat.le_refl _); omega
  · have h : s.log.length = 0 := h
    show tmL s.log s.log.length = 0
    rw [h]; rfl
  · obtain ⟨a, b, d⟩ := hv h
    show g.voted T s.id = s.id ∧ (g.clog T s.id).length = s.log.length ∧ tmL (g.clog T s.id) s.log.length = tmL s.log s.log.length
    rw [hid, d]
    exact ⟨b, rfl, rfl⟩
  · rcases hk with x | x
    · have : 3 ≤ k := h; omega
    · exact Nat.le_of_eq (hv x).1
theorem Good.stand (hG : Good n nd i net g0 s ms) (hb : c.batch ≤ 16) (hn : c.n = n) (h5 : n ≤ 5) (hint : Nat) : Good n nd i net g0 (stand c draw hint s).1 (ms ++ (stand c draw hint s).2) := by
  have hi := hG.1
  have hid := hG.idEq
  have hT : ∀ k, tmL s.log k ≤ s.term := fun k => by obtain ⟨g, hI⟩ := hG.some; exact hI.at_.logT k
  have h1 : Good n nd i net g0 { s with term := s.term + 1, vote := 0, role := 1 } ms := hG.falls rfl (Nat.le_succ _) (by rw [if_pos (Nat.lt_succ_self _)]) rfl rfl rfl rfl
  unfold Rs.stand
  simp only
  by_cases hm : maj c 1 = true
  · rw [if_pos hm]
    refine Good.lead ?_ hb hn h5 rfl (by exact hm)
    exact h1.cast i hi rfl rfl rfl rfl rfl rfl hid (fun _ k => Nat.lt_succ_of_le (hT k)) (fun g hI h => absurd rfl h) (fun hr => no hr) fun _ => ⟨rfl, by show [s.id] = [i]; rw [hid]⟩
  · rw [if_neg hm]
    refine h1.to fun g hI => ⟨g.cast (s.term + 1) i i s.log, ?_, ext_cast (s := { s with term := s.term + 1, vote := 0, role := 1 }) (s' := Rs.rest c draw { s with term := s.term + 1, vote := s.id, role := 3, leader := 0, heir := 0, gr := [s.id], rf := [] }) rfl hI.at_.voteN⟩
    have hat : setN nd i { s with term := s.term + 1, vote := 0, role := 1 } i = { s with term := s.term + 1, vote := 0, role := 1 } := setN_at ..
    have hJ := hI.cast (s := Rs.rest c draw { s with term := s.term + 1, vote := s.id, role := 3, leader := 0, heir := 0, gr := [s.id], rf := [] }) i hi hi hid (by rw [hat]; rfl) (by rw [hat]; rfl) (by rw [hat]; rfl) (by rw [hat]; rfl) (by rw [hat]) hid (fun _ k => by rw [hat]; exact Nat.lt_succ_of_le (hT k)) (fun h => absurd rfl h) (fun hr => no hr) fun _ => ⟨rfl, by show [s.id] = [i]; rw [hid]⟩
    rw [hat] at hJ
    refine hJ.net' fun m hm => ?_
    rw [← List.append_assoc] at hm
    rcases List.mem_append.1 hm with x | x
    · exact .inl x
    · obtain ⟨p, hp, rfl⟩ := List.mem_map.1 x
      have hJ' := hJ
      rw [setN_setN] at hJ'
      obtain ⟨a, b, d⟩ := asks_ok (h := hint) (.inr rfl) (Nat.succ_le_succ (Nat.zero_le s.term)) hn hJ' hi (Nat.le_refl _) (fun _ => ⟨rfl, upd2_at .., clog_cast⟩) (fun h => no h) hp
      rw [setN_setN]
      exact .inr ⟨a, by show termOf _ (setN nd i _ s.id).term; rw [hid, setN_at]; exact d⟩
theorem Good.begin_ (hG : Good n nd i net g0 s ms) (hb : c.batch ≤ 16) (hn : c.n = n) (h5 : n ≤ 5) : Good n nd i net g0 (begin_ c draw s).1 (ms ++ (begin_ c draw s).2) := by
  have hi := hG.1
  have h1 : Good n nd i net g0 (Rs.rest c draw s) ms := hG.rest
  unfold Rs.begin_
  simp only
  by_cases hs : stuck (Rs.rest c draw s) = true
  · rw [if_pos hs, List.append_nil]; exact h1
  · rw [if_neg hs]
    have h2 : Good n nd i net g0 { (Rs.rest c draw s) with role := 2, leader := 0, heir := 0, gr := [(Rs.rest c draw s).id] } ms := h1.soft ⟨rfl, rfl, rfl, rfl, rfl, rfl, .inr (.inr rfl), rfl, rfl, .inr (.inl rfl)⟩
    by_cases hm : maj c 1 = true
    · rw [if_pos hm]; exact h2.stand hb hn h5 0
    · rw [if_neg hm]
      refine h2.send _ fun g hI m hm => ?_
      obtain ⟨p, hp, rfl⟩ := List.mem_map.1 hm
      exact asks_ok (.inl rfl) (Nat.succ_le_succ (Nat.zero_le _)) hn hI hi (Nat.le_succ _) (fun h => no h) (fun _ => rfl) hp
theorem Good.tick (hG : Good n nd i net g0 s ms) (hb : c.batch ≤ 16) (hn : c.n = n) (h5 : n ≤ 5) : Good n nd i net g0 (tick c draw s).1 (ms ++ (tick c draw s).2) := by
  unfold Rs.tick
  simp only
  have h1 : Good n nd i net g0 { s with elapsed := s.elapsed + 1 } ms := hG.soft ⟨rfl, rfl, rfl, rfl, rfl, rfl, .inl rfl, rfl, rfl, .inl rfl⟩
  by_cases hr : s.role ≠ 4
  · rw [if_pos hr]
    split
    · exact h1.begin_ hb hn h5
    · rw [List.append_nil]; exact h1
  · rw [if_neg hr]
    have hr4 : s.role = 4 := by omega
    split
    · rw [List.append_nil]
      have : Good n nd i net g0 { s with elapsed := 0, beat := s.beat + 1 } ms := hG.soft ⟨rfl, rfl, rfl, rfl, rfl, rfl, .inl rfl, rfl, rfl, .inl rfl⟩
      exact this.follow _ _
    · by_cases he : c.most ≤ s.elapsed + 1
      · simp only [if_pos he]
        split
        · exact Good.apps (hG.soft ⟨rfl, rfl, rfl, rfl, rfl, rfl, .inl rfl, rfl, rfl, .inl rfl⟩) hb hn h5 hr4
        · rw [List.append_nil]
          exact hG.soft ⟨rfl, rfl, rfl, rfl, rfl, rfl, .inl rfl, rfl, rfl, .inl rfl⟩
      · simp only [if_neg he]
        split
        · exact Good.apps (hG.soft ⟨rfl, rfl, rfl, rfl, rfl, rfl, .inl rfl, rfl, rfl, .inl rfl⟩) hb hn h5 hr4
        · rw [List.append_nil]
          exact hG.soft ⟨rfl, rfl, rfl, rfl, rfl, rfl, .inl rfl, rfl, rfl, .inl rfl⟩
theorem Good.push (hG : Good n nd i net g0 s ms) (hr : s.role = 4) (es : List Ent) (he : ∀ e, e ∈ es → e.term = s.term) (hlen : s.log.length + es.length ≤ s.term + 16 * g0.pn) : Good n nd i net g0 { s with log := s.log ++ es } ms := by
  obtain ⟨hi, g, hI, hE⟩ := hG
  suffices h : ∃ g', Inv n (setN (setN nd i s) i { s with log := s.log ++ es }) (net ++ ms) g' ∧ Ext (setN nd i s) (setN (setN nd i s) i { s with log := s.log ++ es }) g g' by
    obtain ⟨g', x, y⟩ := h
    rw [setN_setN] at x y
    exact ⟨hi, g', x, hE.trans y⟩
  have hN := hI.at_
  obtain ⟨a, b, d, f⟩ := hN.lead hr
  have hat : setN nd i s i = s := setN_at ..
  have hne : g.lid s.term ≠ 0 := by rw [a]; omega
  have hpre : g.llog s.term <+: s.log ++ es := by rw [b]; exact List.prefix_append ..
  refine ⟨g.grow s.term i (s.log ++ es), ?_, ext_grow rfl hpre (by rw [d, List.length_append]; omega) (.inr a)⟩
  have := hI.grow (i := i) (s := { s with log := s.log ++ es }) (L := s.log ++ es) hi (by rw [hat]; exact term1 hI hr) hN.id (by rw [hat]) (by rw [hat]) (by rw [hat]) (by rw [hat]) hr rfl (by rw [hat]; exact hpre) (by rw [hat]; exact List.prefix_append ..)
    (fun k h1 h2 => ?_) (by rw [hat]; exact .inr a) (by rw [hat]; have := (hI.gh.llQ s.term hne).2; rw [a] at this; exact this) (fun t k h1 h2 => ?_) (fun t k h1 h2 => ?_) (by rw [hat, hE.pn, List.length_append]; exact hlen) fun p hp => ?_
  · rw [hat] at this; exact this
  · rw [hat] at h1 ⊢
    unfold tmL
    rw [if_neg (by omega), List.getElem?_append_right (by omega)]
    have hlt : k - 1 - s.log.length < es.length := by rw [List.length_append] at h2; omega
    rw [List.getElem?_eq_getElem hlt]
    exact he _ (List.getElem_mem _)
  · rw [hat] at h1
    have := hI.gh.comp t s.term k h1 hne h2
    rw [b] at this
    exact ⟨by rw [List.length_append]; have := this.1; omega, by rw [List.take_append_of_le_length this.1]; exact this.2⟩
  · rw [hat] at h1
    exact hI.gh.compF t s.term k h1 hne h2
  · rw [hat]
    obtain ⟨x, y, z⟩ := f p hp
    exact ⟨x, y, by show s.nx p ≤ (s.log ++ es).length + 1; rw [List.length_append]; omega⟩
theorem Good.propose (hG : Good n nd i net g0 s ms) (hb : c.batch ≤ 16) (hn : c.n = n) (h5 : n ≤ 5) (hr : s.role = 4) (l : List (List Int)) (hlen : s.log.length + l.length ≤ s.term + 16 * g0.pn) : Good n nd i net g0 (propose c l s).1 (ms ++ (propose c l s).2) := by
  unfold Rs.propose
  exact Good.apps (Good.count (hG.push hr _ (fun e he => by obtain ⟨b, _, rfl⟩ := List.mem_map.1 he; rfl) (by rw [List.length_map]; exact hlen)) hn hr) hb hn h5 hr
theorem Good.far (hG : Good n nd i net g0 s ms) (p : Nat) : Good n nd i net g0 (far p s) ms := by
  unfold Rs.far
  split
  · exact hG.soft ⟨rfl, rfl, rfl, rfl, rfl, rfl, .inl rfl, rfl, rfl, .inl rfl⟩
  · exact hG
theorem Good.compact (hG : Good n nd i net g0 s ms) (k : Nat) (h1 : s.snap ≤ k) (h2 : k ≤ s.commit) : Good n nd i net g0 (compact k s) ms := by
  refine hG.node rfl (Nat.le_refl _) (if_neg (Nat.lt_irrefl _)).symm fun g hI => ?_
  have hN := hI.at_
  exact ⟨fun _ _ _ x => x, hN.logA, hN.logT, h2, hN.comm, fun h => hN.tell (Nat.lt_of_le_of_lt h1 h), fun hr => ⟨hr, rfl, rfl, (hN.lead hr).2.2.2⟩, fun hr => ⟨hr, rfl, (hN.cand hr).2.2.1⟩⟩
theorem over_ok (hI : Inv n (setN nd i s) net g) (hn : c.n = n) (hi : 1 ≤ i ∧ i ≤ n) (hr : s.role = 4) {p : Nat} (hp : p ∈ others c s.id) : MsgOK n (mu nd i s) g (over s p) ∧ (over s p).src = i ∧ termOf (over s p) s.term := by
  have hid := hI.at_.id
  rw [hid] at hp
  obtain ⟨hp1, hp2⟩ := mem_others.1 hp
  rw [hn] at hp1
  exact ⟨⟨⟨by simp [over], by show s.id ≠ p; rw [hid]; exact fun h => hp2 h.symm, term1 hI hr, Nat.zero_le _, fun h => by rcases h with h | h | h | h <;> exact no h, fun _ => rfl, Nat.zero_le _, no, no⟩, ⟨by show 1 ≤ s.id ∧ s.id ≤ n; rw [hid]; exact hi, hp1⟩, no, no, fun h => h.elim no no, no, no⟩, hid, no, no, fun _ => Nat.le_refl _⟩
theorem Good.over (hG : Good n nd i net g0 s ms) (hn : c.n = n) (hr : s.role = 4) {p : Nat} (hp : p ∈ others c s.id) : Good n nd i net g0 s (ms ++ [over s p]) := by
  refine hG.send _ fun g hI m hm => ?_
  obtain rfl := List.mem_singleton.1 hm
  exact over_ok hI hn hG.1 hr hp
theorem Good.handOver (hG : Good n nd i net g0 s ms) (hb : c.batch ≤ 16) (hn : c.n = n) (h5 : n ≤ 5) (hr : s.role = 4) {p : Nat} (hp : p ∈ others c s.id) : Good n nd i net g0 (handOver c p s).1 (ms ++ (handOver c p s).2) := by
  have h1 : Good n nd i net g0 { s with heir := p, elapsed := 0 } ms := hG.soft ⟨rfl, rfl, rfl, rfl, rfl, rfl, .inl rfl, rfl, rfl, .inl rfl⟩
  unfold Rs.handOver
  simp only
  split
  · exact h1.over hn hr hp
  · exact h1.app1 hb hn h5 hr hp
theorem Good.installed (hG : Good n nd i net g0 s ms) (L : List Ent) (hr : s.role ≠ 4) (hL : ∀ g, Inv n (setN nd i s) (net ++ ms) g → Agree g L ∧ CommOK n g L L.length) (ht : tmL L L.length ≤ s.term) (hne : s.commit < L.length) : Good n nd i net g0 (installed L s) ms := by
  refine hG.node rfl (Nat.le_refl _) (if_neg (Nat.lt_irrefl _)).symm fun g hI => ?_
  have hN := hI.at_
  obtain ⟨hA, hC⟩ := hL g hI
  have hw : ∃ t0 c', L.length ≤ c' ∧ Comm n g t0 c' ∧ L = (g.llog t0).take L.length := by
    rcases hC.2 with h0 | ⟨t0, c', h1, h2, h3, _⟩
    · omega
    · exact ⟨t0, c', h1, h2, by rw [List.take_length] at h3; exact h3⟩
  obtain ⟨t0, c', w1, w2, w3⟩ := hw
  have hlog : (Rs.installed L s).log = if L.length ≤ s.log.length ∧ tmL s.log L.length = tmL L L.length then s.log else L := rfl
  have hcase : (Rs.installed L s).log = s.log ∧ Has s.log L L.length ∨ (Rs.installed L s).log = L := by
    rw [hlog]
    split
    · rename_i h
      exact .inl ⟨rfl, h.1, by rw [List.take_length, hN.logA.same hA (by omega) h.1 (Nat.le_refl _) h.2, List.take_length]⟩
    · exact .inr rfl
  have hhas : Has (Rs.installed L s).log L L.length := by
    rcases hcase with ⟨a, b⟩ | a
    · rw [a]; exact b
    · rw [a]; exact Has.refl (Nat.le_refl _)
  refine ⟨fun t k hl hh => by rw [hlog]; exact install_keeps hI.gh w2 w1 w3 hl hh, ?_, fun k => ?_, Nat.le_refl _, ⟨hhas.1, .inr ⟨t0, c', w1, w2, ?_, trivial⟩⟩, fun h => absurd h (Nat.lt_irrefl _), fun h => absurd h hr, fun h => ⟨h, rfl, (hN.cand h).2.2.1⟩⟩
  · rcases hcase with ⟨a, _⟩ | a <;> rw [a]
    · exact hN.logA
    · exact hA
  · rcases hcase with ⟨a, _⟩ | a <;> rw [a]
    · exact hN.logT k
    · show tmL L k ≤ s.term
      by_cases hk : k ≤ L.length
      · exact Nat.le_trans (hA.mono hI.gh.llT hk (Nat.le_refl _)) ht
      · rw [Rf.tmL_past _ (by omega)]; exact Nat.zero_le _
  · show (Rs.installed L s).log.take L.length = _
    rw [hhas.2, List.take_length]; exact w3
end
end Go.Proofs.YtocogcgnahbpkaaGreat.Rs
namespace Go.Proofs.YtocogcgnahbpkaaGreat.Rs
open Rf (Ent Msg Cfg tmL Maj upTo nodup_le)
section
variable {n : Nat} {nd : Nat → Nd} {g g0 : Gh} {net : List Msg} {i : Nat} {s s' : Nd} {ms ms' : List Msg} {c : Cfg} {draw : Int} {m : Msg}
theorem re_ok {tm : Nat → Nat} {k : Nat} (hk : k = 2 ∨ k = 4 ∨ k = 6) {T x h : Nat} {r : Bool} (hT : 1 ≤ T) (hi : 1 ≤ i ∧ i ≤ n) (hid : s.id = i) (hm : MsgOK n tm g m) (hd : m.dst = i)
    (h4 : k = 4 → r = false → g.voted T i = m.src) (h6 : k = 6 → r = false → Claim g T i x) (h6' : k = 6 → r = true → h < x ∨ (h = 0 ∧ x = 0)) (ht : (k ≠ 2 ∨ r = true) → T ≤ s.term) : MsgOK n tm g (re s m k T x r h) ∧ (re s m k T x r h).src = i ∧ termOf (re s m k T x r h) s.term := by
  have hne := hm.form.ne
  rw [hd] at hne
  have hr := hm.rng
  have nk : ∀ j, k = j → j ≠ 2 → j ≠ 4 → j ≠ 6 → False := fun j e => by omega
  refine ⟨⟨⟨by show 1 ≤ k ∧ k ≤ 8; omega, ?_, hT, Nat.zero_le _, fun h => ?_, fun _ => rfl, by simp [re], h6', fun h => (nk 7 h (by decide) (by decide) (by decide)).elim⟩, ⟨?_, hr.1⟩, fun h => (nk 3 h (by decide) (by decide) (by decide)).elim, fun h e => ?_, fun h => ?_, fun h => (nk 7 h (by decide) (by decide) (by decide)).elim, fun h e => ?_⟩, hid, fun h => (nk 1 h (by decide) (by decide) (by decide)).elim, fun h e => ht (.inr e), fun h => ht (.inl fun e => by have : 3 ≤ k := h; omega)⟩
  · show s.id ≠ m.src; rw [hid]; exact fun h => hne h.symm
  · have : k = 1 ∨ k = 3 ∨ k = 5 ∨ k = 7 := h; omega
  · show 1 ≤ s.id ∧ s.id ≤ n; rw [hid]; exact hi
  · show g.voted T s.id = m.src; rw [hid]; exact h4 h e
  · have : k = 5 ∨ k = 7 := h; omega
  · show Claim g T s.id x; rw [hid]; exact h6 h e
theorem Good.msg (hI : Inv n (setN nd i s) (net ++ ms) g) (hm : m ∈ net) : MsgOK n (mu nd i s) g m := (hI.msgs m (List.mem_append_left _ hm)).1
theorem Good.preVote (hG : Good n nd i net g0 s ms) (hm : m ∈ net) (hd : m.dst = i) : Good n nd i net g0 (preVote m s).1 (ms ++ (preVote m s).2) := by
  have hi := hG.1
  unfold Rs.preVote
  split
  · refine hG.send _ fun g hI x hx => ?_
    obtain rfl := List.mem_singleton.1 hx
    have hM := Good.msg hI hm
    exact re_ok (.inl rfl) hM.form.term hi hI.at_.id hM hd no no no (fun h => by simp at h)
  · rename_i hne
    refine hG.send _ fun g hI x hx => ?_
    obtain rfl := List.mem_singleton.1 hx
    have hM := Good.msg hI hm
    refine re_ok (.inl rfl) ?_ hi hI.at_.id hM hd no no no (fun _ => Nat.le_refl _)
    refine Classical.byContradiction fun h0 => hne ⟨by have := hM.form.term; omega, ?_⟩
    have hA := hI.at_.logA
    have hTT := hI.at_.logT
    have hl : s.log.length = 0 := by
      refine Classical.byContradiction fun hl => ?_
      have a := hA.pos (k := 1) (by omega) (by omega)
      have b := hTT 1
      omega
    have ht : s.tm s.fin = 0 := by show tmL s.log s.log.length = 0; rw [hl]; rfl
    unfold good
    rw [ht, show s.fin = 0 from hl]
    simp
    omega
theorem mem_put {l : List Nat} {x y : Nat} : y ∈ put l x ↔ y ∈ l ∨ y = x := by
  unfold put
  split
  · constructor
    · exact .inl
    · rintro (h | rfl) <;> assumption
  · simp
theorem nodup_put {l : List Nat} (h : l.Nodup) (x : Nat) : (put l x).Nodup := by
  unfold put
  split
  · exact h
  · rename_i hx
    exact List.nodup_append.2 ⟨h, by simp, fun a ha b hb e => by
      obtain rfl := List.mem_singleton.1 hb
      exact hx (by rw [← e]; exact ha)⟩
theorem Good.preReply (hG : Good n nd i net g0 s ms) (hb : c.batch ≤ 16) (hn : c.n = n) (h5 : n ≤ 5) : Good n nd i net g0 (preReply c draw m s).1 (ms ++ (preReply c draw m s).2) := by
  unfold Rs.preReply
  split
  · rw [List.append_nil]; exact hG
  · rename_i hne
    have h2 : s.role = 2 := Classical.byContradiction fun h => hne (.inl h)
    have h1 : Good n nd i net g0 { s with gr := put s.gr m.src } ms := hG.soft ⟨rfl, rfl, rfl, rfl, rfl, rfl, .inl rfl, rfl, rfl, .inr (.inl h2)⟩
    simp only
    split
    · exact h1.stand hb hn h5 0
    · rw [List.append_nil]; exact h1
theorem Good.vote (hG : Good n nd i net g0 s ms) (hm : m ∈ net) (hd : m.dst = i) (hk : m.kind = 3) (ht : m.term = s.term) : Good n nd i net g0 (vote c draw m s).1 (ms ++ (vote c draw m s).2) := by
  have hi := hG.1
  unfold Rs.vote
  split
  · rename_i hc
    simp only
    have hg : Good n nd i net g0 (Rs.rest c draw { s with vote := m.src }) ms := by
      obtain ⟨g1, hI1⟩ := hG.some
      have hM1 := Good.msg hI1 hm
      rcases hc.2 with hv | ⟨hv, _⟩
      · exact hG.soft ⟨rfl, rfl, hv.symm, rfl, rfl, rfl, .inl rfl, rfl, rfl, .inl rfl⟩
      · have hsi : m.src ≠ i := by rw [← hd]; exact hM1.form.ne
        refine hG.cast m.src hM1.rng.1 rfl rfl rfl rfl rfl hv rfl (fun h => absurd h hsi) (fun g hI _ => ?_) (fun h => ⟨h, rfl, rfl⟩) (fun h => ?_)
        · have hM := Good.msg hI hm
          obtain ⟨a, b, d⟩ := hM.vote hk
          rw [ht] at a b d
          have hgood := hc.1
          unfold good at hgood
          rw [Bool.or_eq_true, decide_eq_true_eq, Bool.and_eq_true, beq_iff_eq, decide_eq_true_eq] at hgood
          refine ⟨a, ?_⟩
          unfold upTo
          rw [b, d]
          rcases hgood with h | ⟨h, h'⟩
          · exact .inl h
          · exact .inr ⟨h.symm, h'⟩
        · have := (hI1.at_.cand h).1
          omega
    refine hg.send _ fun g hI x hx => ?_
    obtain rfl := List.mem_singleton.1 hx
    have hM := Good.msg hI hm
    refine re_ok (.inr (.inl rfl)) ?_ hi hI.at_.id hM hd (fun _ _ => hI.at_.voteN) no no (fun _ => Nat.le_refl _)
    show 1 ≤ s.term; rw [← ht]; exact hM.form.term
  · refine hG.send _ fun g hI x hx => ?_
    obtain rfl := List.mem_singleton.1 hx
    have hM := Good.msg hI hm
    exact re_ok (.inr (.inl rfl)) (by rw [← ht]; exact hM.form.term) hi hI.at_.id hM hd (fun _ h => by simp at h) no no (fun _ => Nat.le_refl _)
theorem Good.voteReply (hG : Good n nd i net g0 s ms) (hb : c.batch ≤ 16) (hn : c.n = n) (h5 : n ≤ 5) (hm : m ∈ net) (hd : m.dst = i) (hk : m.kind = 4) (ht : m.term = s.term) : Good n nd i net g0 (voteReply c draw m s).1 (ms ++ (voteReply c draw m s).2) := by
  unfold Rs.voteReply
  split
  · rw [List.append_nil]; exact hG
  · rename_i hne
    have h3 : s.role = 3 := Classical.byContradiction hne
    split
    · rename_i hr
      simp only
      have h1 : Good n nd i net g0 { s with rf := s.rf.filter (· ≠ m.src), gr := put s.gr m.src } ms := by
        refine hG.node rfl (Nat.le_refl _) (if_neg (Nat.lt_irrefl _)).symm fun g hI => ?_
        have hN := hI.at_
        obtain ⟨_, _, ⟨x, z⟩, _⟩ := hN.cand h3
        refine ⟨fun _ _ _ x => x, hN.logA, hN.logT, hN.snap, hN.comm, hN.tell, fun h => ?_, fun _ => ⟨h3, rfl, nodup_put x _, fun p hp => ?_⟩⟩
        · exact absurd (show s.role = 4 from h) (by omega)
        · rcases mem_put.1 hp with h | rfl
          · exact z p h
          · have hM := Good.msg hI hm
            exact ⟨hM.rng.1, by rw [show s.term = m.term from ht.symm, hM.grant hk hr]; exact hd⟩
      split
      · exact h1.lead hb hn h5 h3 (by assumption)
      · rw [List.append_nil]; exact h1
    · simp only
      have h1 : Good n nd i net g0 (if m.src ∈ s.gr then s else { s with rf := put s.rf m.src }) ms := by
        split
        · exact hG
        · exact hG.soft ⟨rfl, rfl, rfl, rfl, rfl, rfl, .inl rfl, rfl, rfl, .inl rfl⟩
      generalize (if m.src ∈ s.gr then s else { s with rf := put s.rf m.src }) = s1 at h1 ⊢
      split
      · rw [List.append_nil]; exact h1.follow _ _
      · rw [List.append_nil]; exact h1
theorem Good.old (hG : Good n nd i net g0 s ms) (hm : m ∈ net) (hd : m.dst = i) (ht : m.term < s.term) : Good n nd i net g0 s (ms ++ old m s) := by
  have hi := hG.1
  refine hG.send _ fun g hI x hx => ?_
  have hM := Good.msg hI hm
  unfold Rs.old at hx
  split at hx
  · obtain rfl := List.mem_singleton.1 hx
    exact re_ok (.inr (.inr rfl)) (by omega) hi hI.at_.id hM hd no (fun _ h => by simp at h) (fun _ _ => by omega) (fun _ => Nat.le_refl _)
  · split at hx
    · obtain rfl := List.mem_singleton.1 hx
      exact re_ok (.inl rfl) (by omega) hi hI.at_.id hM hd no no no (fun _ => Nat.le_refl _)
    · split at hx
      · obtain rfl := List.mem_singleton.1 hx
        exact re_ok (.inr (.inl rfl)) (by omega) hi hI.at_.id hM hd (fun _ h => by simp at h) no no (fun _ => Nat.le_refl _)
      · exact absurd hx (by simp)
end
end Go.Proofs.YtocogcgnahbpkaaGreat.Rs
