/-
  A part of the proof of what E53 says at its head.
-/
import Derived.Test.YtocogcgnahbpkaaGreatE46
namespace Go.Proofs.YtocogcgnahbpkaaGreat.Rs
open Rf (Ent Msg Cfg tmL Maj upTo nodup_le)
theorem no {a b : Nat} {p : Prop} (h : a = b) (hd : Nat.beq a b = false := by rfl) : p := by subst h; rw [Nat.beq_refl] at hd; exact absurd hd (by decide)
theorem Ext.trans {nd nd' nd'' : Nat → Nd} {g g' g'' : Gh} (a : Ext nd nd' g g') (b : Ext nd' nd'' g' g'') : Ext nd nd'' g g'' := by
  refine ⟨fun q => Nat.le_trans (a.tm q) (b.tm q), fun t q => Nat.le_trans (a.ack t q) (b.ack t q), fun t k h => ?_, fun t h => ?_, fun t q h => ?_, fun t q h => ?_, fun t c h h' => ?_, fun t q h => ?_, fun t i h => ?_, ?_⟩
  · have x := a.llog t k h
    have y := b.llog t k x.1
    exact ⟨y.1, by rw [y.2, x.2]⟩
  · rw [b.lid t (by rw [a.lid t h]; exact h), a.lid t h]
  · rw [b.voted t q (by rw [a.voted t q h]; exact h), a.voted t q h]
  · rw [b.votedN t q (Nat.lt_of_lt_of_le h (a.tm q)), a.votedN t q h]
  · rw [b.clog t c (by rw [a.voted t c (by omega)]; exact h) h', a.clog t c h h']
  · rw [b.vlog t q (by rw [a.voted t q h]; exact h), a.vlog t q h]
  · rw [b.cert t i (by rw [a.cert t i h]; exact h), a.cert t i h]
  · rw [b.pn, a.pn]
theorem setN_setN (nd : Nat → Nd) (i : Nat) (s s' : Nd) : setN (setN nd i s) i s' = setN nd i s' := by
  funext j
  by_cases h : j = i
  · subst h; rw [setN_at, setN_at]
  · rw [setN_ne _ _ h, setN_ne _ _ h, setN_ne _ _ h]
theorem setN_self (nd : Nat → Nd) (i : Nat) : setN nd i (nd i) = nd := by
  funext j
  by_cases h : j = i
  · subst h; rw [setN_at]
  · rw [setN_ne _ _ h]
section
variable {n : Nat} {nd : Nat → Nd} {g g0 : Gh} {net : List Msg} {i : Nat} {s s' : Nd} {ms ms' : List Msg} {c : Cfg} {draw : Int} {m : Msg}
abbrev mu (nd : Nat → Nd) (i : Nat) (s : Nd) : Nat → Nat := fun q => (setN nd i s q).term
def Good (n : Nat) (nd : Nat → Nd) (i : Nat) (net : List Msg) (g0 : Gh) (s : Nd) (ms : List Msg) : Prop :=
  (1 ≤ i ∧ i ≤ n) ∧ ∃ g, Inv n (setN nd i s) (net ++ ms) g ∧ Ext nd (setN nd i s) g0 g
theorem Good.start (h : Inv n nd net g) (hi : 1 ≤ i ∧ i ≤ n) : Good n nd i net g (nd i) [] := by
  refine ⟨hi, g, ?_, ?_⟩
  · rw [setN_self, List.append_nil]; exact h
  · rw [setN_self]; exact .refl fun _ => Nat.le_refl _
theorem Good.to (hG : Good n nd i net g0 s ms) (h : ∀ g, Inv n (setN nd i s) (net ++ ms) g → ∃ g', Inv n (setN (setN nd i s) i s') (net ++ ms') g' ∧ Ext (setN nd i s) (setN (setN nd i s) i s') g g') : Good n nd i net g0 s' ms' := by
  obtain ⟨hi, g, a, b⟩ := hG
  obtain ⟨g', x, y⟩ := h g a
  rw [setN_setN] at x y
  exact ⟨hi, g', x, b.trans y⟩
theorem Inv.at_ (hI : Inv n (setN nd i s) net g) : NdOK n (mu nd i s) g i s := by
  have := hI.nds i
  rwa [setN_at] at this
theorem Good.some (hG : Good n nd i net g0 s ms) : ∃ g, Inv n (setN nd i s) (net ++ ms) g := by
  obtain ⟨_, g, hI, _⟩ := hG
  exact ⟨g, hI⟩
theorem Good.idEq (hG : Good n nd i net g0 s ms) : s.id = i := by
  obtain ⟨g, hI⟩ := hG.some
  exact hI.at_.id
theorem ext_same (h : s.term ≤ s'.term) : Ext (setN nd i s) (setN (setN nd i s) i s') g g := .refl (setN_le (by rw [setN_at]; exact h))
theorem mu_at : mu nd i s i = s.term := by show (setN nd i s i).term = _; rw [setN_at]
theorem Good.node (hG : Good n nd i net g0 s ms) (hid : s'.id = s.id) (hterm : s.term ≤ s'.term) (hv : s'.vote = if s.term < s'.term then 0 else s.vote)
    (h : ∀ g, Inv n (setN nd i s) (net ++ ms) g → (∀ t k, Live g t k → Has s.log (g.llog t) k → Has s'.log (g.llog t) k) ∧ Agree g s'.log ∧ (∀ k, tmL s'.log k ≤ s'.term) ∧ s'.snap ≤ s'.commit ∧ CommOK n g s'.log s'.commit ∧ (s'.snap < s'.commit → CommT n g (fun t0 => t0 ≤ s'.term ∨ Late n (mu nd i s) g s'.term t0) s'.log s'.commit) ∧
      (s'.role = 4 → s.role = 4 ∧ s'.term = s.term ∧ s'.log = s.log ∧ ∀ p, p ≠ i → Claim g s'.term p (s'.mt p) ∧ s'.mt p < s'.nx p ∧ s'.nx p ≤ s'.log.length + 1) ∧
      (s'.role = 3 → s.role = 3 ∧ s'.term = s.term ∧ s'.gr.Nodup ∧ ∀ p, p ∈ s'.gr → (1 ≤ p ∧ p ≤ n) ∧ g.voted s'.term p = i)) : Good n nd i net g0 s' ms := by
  refine hG.to fun g hI => ⟨g, ?_, ext_same hterm⟩
  obtain ⟨a, b, c, d, e, f, x, y⟩ := h g hI
  have hat : setN nd i s i = s := setN_at ..
  refine hI.node (by rw [hid]; exact hI.at_.id) (fun _ => hG.1) (by rw [hat]; exact hterm) (by rw [hat]; exact hv) (by rw [hat]; exact a) b c d e f (by rw [hat]; exact x) (by rw [hat]; exact y)
structure Same (s s' : Nd) : Prop where
  id : s'.id = s.id
  term : s'.term = s.term
  vote : s'.vote = s.vote
  log : s'.log = s.log
  snap : s'.snap = s.snap
  commit : s'.commit = s.commit
  role : s'.role = s.role ∨ s'.role = 1 ∨ s'.role = 2
  mt : s'.mt = s.mt
  nx : s'.nx = s.nx
  gr : s'.gr = s.gr ∨ s'.role = 2 ∨ s.role ≠ 3
theorem Good.soft (hG : Good n nd i net g0 s ms) (h : Same s s') : Good n nd i net g0 s' ms := by
  have hr4 : s'.role = 4 → s.role = 4 := fun hr => by rcases h.role with x | x | x <;> omega
  have hr3 : s'.role = 3 → s.role = 3 := fun hr => by rcases h.role with x | x | x <;> omega
  refine hG.node h.id (by rw [h.term]; exact Nat.le_refl _) (by rw [h.term, if_neg (Nat.lt_irrefl _)]; exact h.vote) fun g hI => ?_
  have hN := hI.at_
  rw [h.log, h.term, h.snap, h.commit, h.mt, h.nx]
  refine ⟨fun _ _ _ x => x, hN.logA, hN.logT, hN.snap, hN.comm, hN.tell, fun hr => ⟨hr4 hr, rfl, rfl, (hN.lead (hr4 hr)).2.2.2⟩, fun hr => ⟨hr3 hr, rfl, ?_⟩⟩
  have := (hN.cand (hr3 hr)).2.2.1
  rcases h.gr with x | x | x
  · rw [x]; exact this
  · omega
  · exact absurd (hr3 hr) x
theorem Good.send (hG : Good n nd i net g0 s ms) (new : List Msg) (h : ∀ g, Inv n (setN nd i s) (net ++ ms) g → ∀ m, m ∈ new → MsgOK n (mu nd i s) g m ∧ m.src = i ∧ termOf m s.term) : Good n nd i net g0 s (ms ++ new) := by
  refine hG.to fun g hI => ⟨g, ?_, ext_same (Nat.le_refl _)⟩
  rw [setN_setN]
  refine hI.net' fun m hm => ?_
  rw [← List.append_assoc] at hm
  rcases List.mem_append.1 hm with x | x
  · exact .inl x
  · obtain ⟨a, b, d⟩ := h g hI m x
    exact .inr ⟨a, by rw [b, setN_at]; exact d⟩
theorem Good.rest (hG : Good n nd i net g0 s ms) : Good n nd i net g0 (rest c draw s) ms := hG.soft ⟨rfl, rfl, rfl, rfl, rfl, rfl, .inl rfl, rfl, rfl, .inl rfl⟩
theorem Good.falls (hG : Good n nd i net g0 s ms) (hid : s'.id = s.id) (hterm : s.term ≤ s'.term) (hv : s'.vote = if s.term < s'.term then 0 else s.vote) (hlog : s'.log = s.log) (hsn : s'.snap = s.snap) (hcm : s'.commit = s.commit) (hr : s'.role = 1) : Good n nd i net g0 s' ms := by
  refine hG.node hid hterm hv fun g hI => ?_
  have hN := hI.at_
  rw [hlog, hsn, hcm]
  exact ⟨fun _ _ _ x => x, hN.logA, fun k => Nat.le_trans (hN.logT k) hterm, hN.snap, hN.comm, fun h => (hN.tell h).mono fun _ h => h.imp (fun h => Nat.le_trans h hterm) fun h => h.mono hterm, fun h => by omega, fun h => by omega⟩
theorem Good.follow (hG : Good n nd i net g0 s ms) (t l : Nat) : Good n nd i net g0 (follow c draw t l s) ms := by
  refine hG.falls rfl (Nat.le_max_left ..) ?_ rfl rfl rfl rfl
  show (if s.term < t then 0 else s.vote) = if s.term < max s.term t then 0 else s.vote
  by_cases x : s.term < t
  · rw [if_pos x, if_pos (by omega)]
  · rw [if_neg x, if_neg (by omega)]
theorem mem_others {id p : Nat} : p ∈ others c id ↔ (1 ≤ p ∧ p ≤ c.n) ∧ p ≠ id := by
  unfold others
  rw [List.mem_filter, List.mem_range'_1]
  constructor
  · rintro ⟨a, b⟩; exact ⟨by omega, by simpa using b⟩
  · rintro ⟨a, b⟩; exact ⟨by omega, by simpa using b⟩
theorem nodup_others (c : Cfg) (id : Nat) : (others c id).Nodup := (List.nodup_range' (step := 1) (by omega)).filter _
theorem late_of {tm : Nat → Nat} (hG : GhOK n tm g) (h5 : n ≤ 5) {t0 c' p T : Nat} (hc : Comm n g t0 c') (hT : T < t0) (hi : 1 ≤ i ∧ i ≤ n) (hti : tm i = T) (hp : 1 ≤ p ∧ p ≤ n) (hne : p ≠ i) : T < tm p ∨ Late n tm g T t0 := by
  by_cases hx : T < tm p
  · exact .inl hx
  · obtain ⟨R, hR, hr⟩ := hc.acks
    have hb : ∀ r, r ∈ R → t0 ≤ tm r := fun r hm => Classical.byContradiction fun hn => by
      have := (hG.vF t0 r (by omega)).2
      have := hr r hm
      have := hc.i1
      omega
    refine .inr ⟨R, hR, fun r hm => ⟨hb r hm, fun t c h1 h2 h3 h4 => ?_⟩⟩
    obtain ⟨v1, v2, _⟩ := hG.votes t r c h3 h4
    have hle : t ≤ tm c := Classical.byContradiction fun hn => h3 (by rw [← v1]; exact (hG.vF t c (by omega)).1)
    by_cases hcR : c ∈ R
    · have := hb c hcR; omega
    · have hiR : i ∉ R := fun h => by have := hb i h; omega
      have hpR : p ∉ R := fun h => by have := hb p h; omega
      by_cases hci : c = i
      · subst hci; omega
      · by_cases hcp : c = p
        · subst hcp; omega
        · have hnd : (c :: i :: p :: R).Nodup := by
            simp only [List.nodup_cons, List.mem_cons, not_or]
            exact ⟨⟨hci, hcp, hcR⟩, ⟨fun e => hne e.symm, hiR⟩, hpR, hR.nd⟩
          have := nodup_le (R := List.range' 1 n) hnd fun q hq => by
            rw [List.mem_range'_1]
            simp only [List.mem_cons] at hq
            rcases hq with rfl | rfl | rfl | hq
            · omega
            · omega
            · omega
            · have := hR.rng q hq; omega
          have hbig := hR.big
          simp only [List.length_cons, List.length_range'] at this
          omega
theorem term1 (hI : Inv n (setN nd i s) net g) (hr : s.role = 4) : 1 ≤ s.term := (hI.gh.llQ s.term (by
  have hN := hI.at_
  rw [(hN.lead hr).1]
  have := hN.rng (by omega)
  omega)).1
theorem app_ok (hb : c.batch ≤ 16) (hn : c.n = n) (h5 : n ≤ 5) (hI : Inv n (setN nd i s) net g) (hi : 1 ≤ i ∧ i ≤ n) (hr : s.role = 4) {p : Nat} (hp : p ∈ others c s.id) : MsgOK n (mu nd i s) g (app c s p) ∧ (app c s p).src = i ∧ termOf (app c s p) s.term := by
  have hN := hI.at_
  have hid := hN.id
  obtain ⟨a, b, d, f⟩ := hN.lead hr
  rw [hid] at hp
  obtain ⟨hp1, hp2⟩ := mem_others.1 hp
  rw [hn] at hp1
  obtain ⟨_, x, y⟩ := f p hp2
  have hT1 := term1 hI hr
  have hcm : CommT n g (fun t0 => t0 ≤ s.term ∨ s.term < mu nd i s p ∨ Late n (mu nd i s) g s.term t0) (g.llog s.term) s.commit := by
    rw [b]
    by_cases hs : s.snap < s.commit
    · exact (hN.tell hs).mono fun _ h => h.imp (fun x => x) .inr
    · refine ⟨hN.comm.1, hN.comm.2.imp (fun x => x) fun ⟨t0, c', h1, h2, h3, _⟩ => ⟨t0, c', h1, h2, h3, ?_⟩⟩
      rcases Nat.lt_or_ge s.term t0 with z | z
      · exact .inr (late_of hI.gh h5 h2 z hi mu_at hp1 hp2)
      · exact .inl z
  have hz : ∀ k, tmL s.log k ≠ 0 ∨ s.log.length < k → (tmL s.log k = 0 ↔ k = 0) ∨ s.log.length < k := fun k _ => by
    rcases Nat.lt_or_ge s.log.length k with z | z
    · exact .inr z
    · refine .inl ⟨fun h => ?_, fun h => by rw [h]; rfl⟩
      rcases Nat.eq_zero_or_pos k with h0 | h0
      · exact h0
      · have := hN.logA.pos h0 z; omega
  have hz : ∀ k, k ≤ s.log.length → (tmL s.log k = 0 ↔ k = 0) := fun k hk => ⟨fun h => by
    rcases Nat.eq_zero_or_pos k with h0 | h0
    · exact h0
    · have := hN.logA.pos h0 hk; omega, fun h => by rw [h]; rfl⟩
  unfold app
  by_cases hsn : s.nx p ≤ s.snap
  · rw [if_pos hsn]
    have hle : s.snap ≤ s.log.length := Nat.le_trans hN.snap hN.comm.1
    refine ⟨⟨⟨by simp, by show s.id ≠ p; rw [hid]; exact fun h => hp2 h.symm, hT1, hN.logT _, fun _ => hz _ hle, fun _ => rfl, Nat.zero_le _, no, fun _ => by show 1 ≤ s.snap; omega⟩, ⟨by show 1 ≤ s.id ∧ s.id ≤ n; rw [hid]; exact hi, hp1⟩, no, no, fun _ => ⟨by show g.lid s.term = s.id; rw [a, hid], ?_, ?_, by simp, hcm⟩, fun _ => hN.snap, no⟩, hid, no, no, fun _ => Nat.le_refl _⟩
    · show s.snap + 0 ≤ (g.llog s.term).length; rw [b]; exact hle
    · show tmL s.log s.snap = _; rw [b]
  · rw [if_neg hsn]
    have hlen : ((s.log.drop (s.nx p - 1)).take c.batch).length ≤ s.log.length - (s.nx p - 1) := by rw [List.length_take, List.length_drop]; omega
    refine ⟨⟨⟨by simp, by show s.id ≠ p; rw [hid]; exact fun h => hp2 h.symm, hT1, hN.logT _, fun _ => hz _ (by omega), fun h => absurd rfl h, by show ((s.log.drop (s.nx p - 1)).take c.batch).length ≤ 16; rw [List.length_take]; omega, no, no⟩, ⟨by show 1 ≤ s.id ∧ s.id ≤ n; rw [hid]; exact hi, hp1⟩, no, no, fun _ => ⟨by show g.lid s.term = s.id; rw [a, hid], ?_, ?_, ?_, hcm⟩, no, no⟩, hid, no, no, fun _ => Nat.le_refl _⟩
    · show s.nx p - 1 + ((s.log.drop (s.nx p - 1)).take c.batch).length ≤ (g.llog s.term).length; rw [b]; omega
    · show tmL s.log (s.nx p - 1) = _; rw [b]
    · show (s.log.drop (s.nx p - 1)).take c.batch = ((g.llog s.term).drop (s.nx p - 1)).take ((s.log.drop (s.nx p - 1)).take c.batch).length
      rw [b, List.length_take, ← List.take_take, List.take_length]
theorem Good.apps (hG : Good n nd i net g0 s ms) (hb : c.batch ≤ 16) (hn : c.n = n) (h5 : n ≤ 5) (hr : s.role = 4) : Good n nd i net g0 s (ms ++ apps c s) := by
  refine hG.send _ fun g hI m hm => ?_
  obtain ⟨p, hp, rfl⟩ := List.mem_map.1 hm
  exact app_ok hb hn h5 hI hG.1 hr hp
theorem Good.app1 (hG : Good n nd i net g0 s ms) (hb : c.batch ≤ 16) (hn : c.n = n) (h5 : n ≤ 5) (hr : s.role = 4) {p : Nat} (hp : p ∈ others c s.id) : Good n nd i net g0 s (ms ++ [app c s p]) := by
  refine hG.send _ fun g hI m hm => ?_
  obtain rfl := List.mem_singleton.1 hm
  exact app_ok hb hn h5 hI hG.1 hr hp
theorem Good.commit (hG : Good n nd i net g0 s ms) (k : Nat) (hk : s.commit ≤ k) (h : ∀ g, Inv n (setN nd i s) (net ++ ms) g → CommT n g (fun t0 => t0 ≤ s.term ∨ Late n (mu nd i s) g s.term t0) s.log k) : Good n nd i net g0 { s with commit := k } ms := by
  refine hG.node rfl (Nat.le_refl _) (by rw [if_neg (Nat.lt_irrefl _)]) fun g hI => ?_
  have hN := hI.at_
  exact ⟨fun _ _ _ x => x, hN.logA, hN.logT, Nat.le_trans hN.snap hk, (h g hI).mono fun _ _ => trivial, fun _ => h g hI, fun hr => ⟨hr, rfl, rfl, (hN.lead hr).2.2.2⟩, fun hr => ⟨hr, rfl, (hN.cand hr).2.2.1⟩⟩
theorem countFrom_cases (c : Cfg) (s : Nd) (k : Nat) : countFrom c s k = s.commit ∨ ∃ j, s.commit < j ∧ j ≤ k ∧ s.tm j = s.term ∧ maj c (have_ c s j) = true ∧ countFrom c s k = j := by
  induction k with
  | zero => exact .inl rfl
  | succ k ih =>
    unfold countFrom
    split
    · exact .inl rfl
    · rename_i h1
      split
      · rename_i h2
        split
        · rename_i h3
          exact .inr ⟨k + 1, by omega, Nat.le_refl _, h2, h3, rfl⟩
        · rcases ih with h | ⟨j, a, b, d⟩
          · exact .inl h
          · exact .inr ⟨j, a, by omega, d⟩
      · exact .inl rfl
theorem have_maj (hn : c.n = n) (hi : 1 ≤ i ∧ i ≤ n) {P : Nat → Bool} (h : maj c (1 + ((others c i).filter P).length) = true) : Maj n (i :: (others c i).filter P) := by
  refine ⟨List.nodup_cons.2 ⟨fun hm => ?_, (nodup_others c i).filter _⟩, fun q hq => ?_, ?_⟩
  · exact (mem_others.1 (List.mem_filter.1 hm).1).2 rfl
  · rcases List.mem_cons.1 hq with rfl | hq
    · exact hi
    · rw [← hn]; exact (mem_others.1 (List.mem_filter.1 hq).1).1
  · have := of_decide_eq_true h
    rw [List.length_cons]; omega
theorem counts (hI : Inv n (setN nd i s) net g) (hn : c.n = n) (hr : s.role = 4) {j : Nat} (h1 : 1 ≤ j) (h2 : j ≤ s.log.length) (h3 : s.tm j = s.term) (h4 : maj c (have_ c s j) = true) : Comm n g s.term j := by
  have hN := hI.at_
  obtain ⟨a, b, d, f⟩ := hN.lead hr
  have hi := hN.rng (by omega)
  have hM := have_maj hn hi (P := fun p => decide (j ≤ s.mt p)) (by unfold have_ at h4; rw [hN.id] at h4; exact h4)
  have hno : g.cert s.term j = [] := Classical.byContradiction fun hc => by
    obtain ⟨hR, hr⟩ := hI.gh.cert s.term j hc
    obtain ⟨x, x1, x2⟩ := hM.meet hR
    obtain ⟨y1, y2⟩ := hr x x2
    rcases List.mem_cons.1 x1 with rfl | x1
    · have : (setN nd x s x).term = s.term := by rw [setN_at]
      omega
    · have hm := List.mem_filter.1 x1
      rcases (f x (mem_others.1 hm.1).2).1 j h1 (of_decide_eq_true hm.2) (fun _ => by rw [b]; exact h3) with z | z
      · omega
      · exact z.2 x2
  refine ⟨term1 hI hr, h1, by rw [b]; exact h3, _, hM, fun q hq => ?_⟩
  rcases List.mem_cons.1 hq with rfl | hq
  · rw [d]; exact h2
  · have hm := List.mem_filter.1 hq
    rcases (f q (mem_others.1 hm.1).2).1 j h1 (of_decide_eq_true hm.2) (fun _ => by rw [b]; exact h3) with z | z
    · exact z
    · exact absurd hno z.1
theorem Good.count (hG : Good n nd i net g0 s ms) (hn : c.n = n) (hr : s.role = 4) : Good n nd i net g0 (count c s) ms := by
  rcases countFrom_cases c s s.fin with h | ⟨j, h1, h2, h3, h4, h5⟩
  · have e : Rs.count c s = s := by unfold Rs.count; rw [h]
    rw [e]; exact hG
  · unfold Rs.count
    rw [h5]
    refine hG.commit j (Nat.le_of_lt h1) fun g hI => ⟨h2, .inr ⟨s.term, j, Nat.le_refl _, counts hI hn hr (by omega) h2 h3 h4, ?_, .inl (Nat.le_refl _)⟩⟩
    rw [(hI.at_.lead hr).2.1]
end
end Go.Proofs.YtocogcgnahbpkaaGreat.Rs
