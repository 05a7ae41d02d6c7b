/-
  A part of the proof of what E53 says at its head.
-/
import Derived.Test.YtocogcgnahbpkaaGreatE44
import Derived.Test.YtocogcgnahbpkaaGreatE50
namespace Go.SL
open Go.Proofs Go.Proofs.YtocogcgnahbpkaaGreat
open Rs (Nd)
theorem filter_sub {l l' : List Nat} (h : l'.Sublist l) (hn : l.Nodup) : l.filter (· ∈ l') = l' := by
  induction h with
  | slnil => rfl
  | cons a hs ih =>
    rename_i l1 l2
    have h1 := List.nodup_cons.1 hn
    rw [List.filter_cons_of_neg (by simpa using fun h => h1.1 (hs.subset h))]
    exact ih h1.2
  | cons_cons a hs ih =>
    rename_i l1 l2
    have h1 := List.nodup_cons.1 hn
    rw [List.filter_cons_of_pos (by simp)]
    congr 1
    conv => rhs; rw [← ih h1.2]
    exact List.filter_congr fun x hx => by
      have : x ≠ a := fun h => h1.1 (h ▸ hx)
      simp [this]
theorem mem_put {l : List Nat} {x p : Nat} : x ∈ Rs.put l p ↔ x ∈ l ∨ x = p := by
  unfold Rs.put
  split
  · constructor
    · exact .inl
    · rintro (h | rfl)
      · exact h
      · simpa using ‹_›
  · simp
theorem mem_sk : ∀ (ms : List Rf.Msg) (l : List Nat) (x : Nat), x ∈ ms.foldl (fun l m => if m.kind = 7 then Rs.put l m.dst else l) l ↔ x ∈ l ∨ x ∈ snL ms
  | [], l, x => by simp [snL]
  | m :: ms, l, x => by
    rw [List.foldl_cons, mem_sk ms]
    unfold snL
    by_cases hk : m.kind = 7
    · rw [if_pos hk, mem_put, List.filter_cons_of_pos (by simpa using hk), List.map_cons, List.mem_cons]
      constructor
      · rintro ((h | h) | h)
        · exact .inl h
        · exact .inr (.inl h)
        · exact .inr (.inr h)
      · rintro (h | h | h)
        · exact .inl (.inl h)
        · exact .inl (.inr h)
        · exact .inr h
    · rw [if_neg hk, List.filter_cons_of_neg (by simpa using hk)]
theorem rSnaps_says {c : Rf.Cfg} {A : Nat} {s : Nd} {o : List Rf.Msg} (h : Rs.Says c A s.id o) : rSnaps c s o = snL o := by
  have h7 : (snL o).Sublist (oth c s) := h.seven
  have hn : (oth c s).Nodup := (List.nodup_range' ..).filter _
  unfold rSnaps
  refine Eq.trans ?_ (filter_sub h7 hn)
  exact List.filter_congr fun x hx => by
    have := mem_sk o [] x
    unfold sk
    simp only [List.not_mem_nil, false_or] at this
    simp only [this]
theorem hdOk_of {c : Rf.Cfg} {s : Nd} (h : Rs.Tidy c s.hd ∧ s.id ∉ s.hd) : HdOk c s := by
  have hn : (oth c s).Nodup := (List.nodup_range' ..).filter _
  have hp : ((oth c s).filter (· ∈ s.hd)).Perm s.hd := by
    rw [List.perm_ext_iff_of_nodup (hn.filter _) h.1.1]
    intro x
    rw [List.mem_filter]
    constructor
    · rintro ⟨_, h2⟩; simpa using h2
    · intro hx
      refine ⟨Rs.mem_others.2 ⟨h.1.2 x hx, fun e => h.2 (e ▸ hx)⟩, by simpa using hx⟩
  exact hp.length_eq
section
variable {c : Rf.Cfg} {A i : Nat} {nd : Nat → Nd} {net : List Rf.Msg} {g : Rs.Gh}
theorem siz_of (hc : Rs.CfgOK c) (h : Rs.Ok c A nd net g) (hA : A ≤ 3000) (hi : 1 ≤ i ∧ i ≤ c.n) (hd : ∀ x ∈ (nd i).log, x.data.length ≤ 140737488351232) : Siz c (nd i) := by
  have h1 := h.soft i hi.1 hi.2
  have h2 := h.inv.nds i
  have h3 := h.fin hi
  have h4 := h2.comm.1
  have h5 := h2.snap
  have c1 := hc.n; have c2 := hc.least; have c3 := hc.most; have c4 := hc.beat; have c5 := hc.batch
  have t1 := h1.term; have t2 := h1.el; have t3 := h1.beat
  refine ⟨⟨rfl, rfl, c1, by omega, h1.id, by omega, ⟨h5, h4, by omega, by omega⟩, hd, by omega, by omega⟩, ?_, ?_⟩
  · have := h1.gr.le; omega
  · have := h1.rf.le; omega
theorem tickIn_of (hc : Rs.CfgOK c) (h : Rs.Ok c A nd net g) (hA : A ≤ 3000) (hi : 1 ≤ i ∧ i ≤ c.n) : TickIn c (nd i) := by
  have h1 := h.soft i hi.1 hi.2
  have h2 := h.inv.nds i
  have h3 := h.fin hi
  have t1 := h1.term; have t2 := h1.el; have t3 := h1.beat
  refine ⟨fun hr => ⟨fun p hp => ?_, ?_⟩, fun hr => ?_, fun hr => ?_, by omega, by omega, by omega, by omega⟩
  · have h4 := (h2.lead hr).2.2.2 p (by have := (oth_le hp).2.2; rw [h2.id] at this; exact this)
    omega
  · have := h1.hd.1.le; have := hc.n; omega
  · exact hdOk_of h1.hd
  · exact Classical.byContradiction fun hh => hr (h1.heir hh).1
end
end Go.SL
namespace Go.SL
open Go.Proofs Go.Proofs.YtocogcgnahbpkaaGreat
open Rs (Nd Gh)
section
variable {nd : Nat → Nd} {g0 : Gh} {net net' : List Rf.Msg} {i n k A : Nat} {s : Nd} {ms : List Rf.Msg} {c : Rf.Cfg} {dr : Int}
theorem good_begun (hG : Rs.Good n nd i net g0 s ms) (h1 : s.snap ≤ k) (h2 : k ≤ s.commit) : Rs.Good n nd i net g0 (Rs.rest c dr (reb s k)) ms := by
  refine hG.node rfl (Nat.le_refl _) (if_neg (Nat.lt_irrefl _)).symm fun g hI => ?_
  have hN := hI.at_
  refine ⟨fun _ _ _ x => x, hN.logA, hN.logT, h1, hN.comm.to h2 ⟨Nat.le_trans h2 hN.comm.1, rfl⟩, fun h => ?_, fun hr => absurd (show (1 : Nat) = 4 from hr) (by omega), fun hr => absurd (show (1 : Nat) = 3 from hr) (by omega)⟩
  exact (hN.tell (Nat.lt_of_lt_of_le (show s.snap < k from h) h2)).to h2 ⟨Nat.le_trans h2 hN.comm.1, rfl⟩
theorem soft_begun (hc : Rs.CfgOK c) (h : Rs.Soft c A s) : Rs.Soft c A (Rs.rest c dr (reb s k)) :=
  ⟨h.id, ⟨by show 1 ≤ 1; omega, by show 1 ≤ 4; omega⟩, fun hr => absurd (show (1 : Nat) = 4 from hr) (by omega), Rs.rnd_le hc dr, Nat.zero_le _, Nat.zero_le _, fun hh => absurd rfl hh, h.term, fun hr => absurd (show (1 : Nat) = 2 from hr) (by omega), .nil, .nil, ⟨.nil, fun hh => nomatch hh⟩⟩
theorem ok_begun {g : Gh} (hc : Rs.CfgOK c) (h : Rs.Ok c A nd net g) (hi : 1 ≤ i ∧ i ≤ c.n) (h1 : (nd i).snap ≤ k) (h2 : k ≤ (nd i).commit) : ∃ g', Rs.Ok c A (Rs.setN nd i (Rs.rest c dr (reb (nd i) k))) net g' ∧ Rs.Ext nd (Rs.setN nd i (Rs.rest c dr (reb (nd i) k))) g g' :=
  h.still (good_begun (Rs.Good.start h.inv hi) h1 h2) (soft_begun hc (h.soft i hi.1 hi.2)) fun m hm => hm
theorem ok_compact {g : Gh} (h : Rs.Ok c A nd net g) (hi : 1 ≤ i ∧ i ≤ c.n) (h1 : (nd i).snap ≤ k) (h2 : k ≤ (nd i).commit) (hn : ∀ m, m ∈ net' → m ∈ net) : ∃ g', Rs.Ok c A (Rs.setN nd i (Rs.compact k (nd i))) net' g' ∧ Rs.Ext nd (Rs.setN nd i (Rs.compact k (nd i))) g g' :=
  h.still ((Rs.Good.start h.inv hi).compact k h1 h2) ((h.soft i hi.1 hi.2).compact k) hn
theorem ok_far {g : Gh} {p : Nat} (h : Rs.Ok c A nd net g) (hi : 1 ≤ i ∧ i ≤ c.n) (hn : ∀ m, m ∈ net' → m ∈ net) : ∃ g', Rs.Ok c A (Rs.setN nd i (Rs.far p (nd i))) net' g' ∧ Rs.Ext nd (Rs.setN nd i (Rs.far p (nd i))) g g' :=
  h.still ((Rs.Good.start h.inv hi).far p) ((h.soft i hi.1 hi.2).far p) hn
theorem ok_installed {g : Gh} {j : Nat} (h : Rs.Ok c A nd net g) (hi : 1 ≤ i ∧ i ≤ c.n) (hr : (nd i).role ≠ 4) (ht : (nd j).tm (nd j).snap ≤ (nd i).term) (hc : (nd i).commit < (nd j).snap) (hn : ∀ m, m ∈ net' → m ∈ net) :
    ∃ g', Rs.Ok c A (Rs.setN nd i (Rs.installed ((nd j).log.take (nd j).snap) (nd i))) net' g' ∧ Rs.Ext nd (Rs.setN nd i (Rs.installed ((nd j).log.take (nd j).snap) (nd i))) g g' := by
  have hN := h.inv.nds j
  have hs : (nd j).snap ≤ (nd j).log.length := Nat.le_trans hN.snap hN.comm.1
  have hl : ((nd j).log.take (nd j).snap).length = (nd j).snap := by rw [List.length_take]; omega
  refine h.still ((Rs.Good.start h.inv hi).installed _ hr (fun g' hI => ?_) ?_ (by rw [hl]; exact hc)) ((h.soft i hi.1 hi.2).installed _) hn
  · have hN' := hI.nds j
    have e : Rs.setN nd i (nd i) j = nd j := by
      by_cases hj : j = i
      · subst hj; exact Rs.setN_at ..
      · exact Rs.setN_ne _ _ hj
    rw [e] at hN'
    refine ⟨hN'.logA.take _, ?_⟩
    rw [hl]
    exact hN'.comm.to hN'.snap ⟨by rw [hl]; exact Nat.le_refl _, by rw [List.take_take, Nat.min_self]⟩
  · rw [hl, Rf.tmL_take _ (Nat.le_refl _)]; exact ht
def g00 : Gh := ⟨fun _ => 0, fun _ => [], fun _ _ => 0, fun _ _ => 0, fun _ _ => [], fun _ _ => [], fun _ _ => [], 0⟩
theorem tm_nil (k : Nat) : Rf.tmL [] k = 0 := by unfold Rf.tmL; split <;> simp
theorem agree_nil (g : Gh) : Rs.Agree g [] := fun k h1 h2 => absurd h2 (by simp; omega)
def nd0 (c : Rf.Cfg) (i : Nat) : Nd := Rs.rest c ((i - 1 : Nat) : Int) (reb { id := i } 0)
theorem inv_start (hi : ∀ i, (nd i).id = i ∧ (nd i).term = 0 ∧ (nd i).vote = 0 ∧ (nd i).log = [] ∧ (nd i).snap = 0 ∧ (nd i).commit = 0 ∧ (nd i).role = 1) : Rs.Inv n nd [] g00 := by
  refine ⟨⟨fun t k => ?_, fun t => agree_nil _, fun t h => absurd rfl h, fun t _ => ⟨rfl, fun _ => rfl⟩, fun t q _ => ⟨rfl, rfl⟩, fun t q c h h2 => absurd h2.symm h, fun t t' i _ h => absurd rfl h, fun t t' i _ h => absurd rfl h, fun t t' q i _ h => absurd rfl h, fun _ _ => Nat.zero_le _, fun t i h => absurd rfl h, fun t => Nat.zero_le _⟩, fun i => ?_, fun m hm => nomatch hm⟩
  · show Rf.tmL [] k ≤ t; rw [tm_nil]; exact Nat.zero_le _
  · obtain ⟨h1, h2, h3, h4, h5, h6, h7⟩ := hi i
    refine ⟨h1, fun h => absurd h7 h, by rw [h3]; rfl, fun t k hk _ => ?_, by rw [h4]; exact agree_nil _, fun k => ?_, by omega, ?_, fun h => by omega, fun h => by omega, fun h => by omega⟩
    · have hk0 : k = 0 := Nat.le_zero.1 hk
      subst hk0
      exact ⟨Nat.zero_le _, by simp⟩
    · rw [h4, tm_nil]; exact Nat.zero_le _
    · rw [h6]; exact ⟨Nat.zero_le _, .inl rfl⟩
theorem ok_start (hc : Rs.CfgOK c) : Rs.Ok c 0 (nd0 c) [] g00 :=
  ⟨inv_start fun i => ⟨rfl, rfl, rfl, rfl, rfl, rfl, rfl⟩, fun i h1 h2 => ⟨⟨h1, h2⟩, ⟨by show 1 ≤ 1; omega, by show 1 ≤ 4; omega⟩, fun hr => absurd (show (1 : Nat) = 4 from hr) (by omega), Rs.rnd_le hc _, Nat.zero_le _, Nat.zero_le _, fun hh => absurd rfl hh, Nat.zero_le _, fun hr => absurd (show (1 : Nat) = 2 from hr) (by omega), .nil, .nil, ⟨.nil, fun hh => nomatch hh⟩⟩, (fun m hm => nomatch hm), Nat.zero_le _⟩
theorem nd0_seat {k bs p : Nat} : (seat0 c k bs p).s = nd0 c (k + 1) := by unfold seat0 nd0 fresh0; rw [Nat.add_sub_cancel]
theorem cfgOK_of (n l m b q : Int) : Rs.CfgOK (cfgOf n l m b q) := by
  have h1 := wholeN_in n (lo := 1) (hi := 5) (by omega)
  have h2 := wholeN_in l (lo := 2) (hi := 12) (by omega)
  have h3 := wholeN_in m (lo := 3) (hi := 15) (by omega)
  have h4 := wholeN_in b (lo := 1) (hi := wholeN l 2 12 - 1) (by omega)
  have h5 := wholeN_in q (lo := 1) (hi := 16) (by omega)
  refine ⟨h1, h2, ⟨?_, ?_⟩, ⟨h4.1, ?_⟩, h5⟩
  · show wholeN l 2 12 + 3 ≤ wholeN l 2 12 + wholeN m 3 15; omega
  · show wholeN l 2 12 + wholeN m 3 15 ≤ wholeN l 2 12 + 18; omega
  · show wholeN b 1 (wholeN l 2 12 - 1) < wholeN l 2 12; omega
end
end Go.SL
namespace Go.SL
open Go.Proofs Go.Proofs.YtocogcgnahbpkaaGreat
open Rs (Nd)
theorem cpl_same : ∀ (l m : List Rf.Ent), l.take (cpl l m) = m.take (cpl l m) ∧ cpl l m ≤ l.length ∧ cpl l m ≤ m.length
  | [], m => by cases m <;> simp [cpl]
  | a :: l, [] => by simp [cpl]
  | a :: l, b :: m => by
    unfold cpl
    split
    · rename_i h
      obtain ⟨h1, h2, h3⟩ := cpl_same l m
      subst h
      simp only [List.take_succ_cons, List.length_cons]
      exact ⟨by rw [h1], by omega, by omega⟩
    · simp
theorem cpl_ge : ∀ (l m : List Rf.Ent) (k : Nat), k ≤ l.length → k ≤ m.length → l.take k = m.take k → k ≤ cpl l m
  | _, _, 0, _, _, _ => Nat.zero_le _
  | [], _, k + 1, h, _, _ => by simp at h
  | a :: l, [], k + 1, _, h, _ => by simp at h
  | a :: l, b :: m, k + 1, h1, h2, h => by
    simp only [List.take_succ_cons, List.cons.injEq] at h
    unfold cpl
    rw [if_pos h.1]
    have := cpl_ge l m k (by simpa using h1) (by simpa using h2) h.2
    omega
structure Behind (s s' : Nd) : Prop where
  snap : s'.snap = s.snap
  same : s'.log.take s.snap = s.log.take s.snap
  len : s.snap ≤ s.log.length ∧ s.snap ≤ s'.log.length
section
variable {s s' : Nd} {fl : Nat × Nat} {o : List Rf.Msg}
theorem Behind.frm (h : Behind s s') : fr s.log s'.log = 0 ∨ (s'.snap < fr s.log s'.log ∧ fr s.log s'.log ≤ s'.log.length + 1) := by
  obtain ⟨h1, h2, h3⟩ := cpl_same s.log s'.log
  have h4 := cpl_ge s.log s'.log s.snap h.len.1 h.len.2 h.same.symm
  unfold fr
  split
  · exact .inl rfl
  · right; rw [h.snap]; omega
theorem Behind.yes (h : Behind s s') : s.snap < rFrom s' (fr s.log s'.log) ∧ rFrom s' (fr s.log s'.log) ≤ s.log.length + 1 ∧ s.log.take (rFrom s' (fr s.log s'.log) - 1) ++ rEnts s' (fr s.log s'.log) = s'.log := by
  obtain ⟨h1, h2, h3⟩ := cpl_same s.log s'.log
  have h4 := cpl_ge s.log s'.log s.snap h.len.1 h.len.2 h.same.symm
  have h5 := h.len
  unfold rFrom rEnts fr
  by_cases he : s'.log = s.log
  · rw [if_pos he, if_pos rfl, if_pos rfl, he]
    refine ⟨by omega, Nat.le_refl _, ?_⟩
    rw [Nat.add_sub_cancel, List.take_length, List.append_nil]
  · rw [if_neg he, if_neg (by omega), if_neg (by omega), Nat.add_sub_cancel]
    refine ⟨by omega, by omega, ?_⟩
    rw [h1, List.take_append_drop]
theorem Behind.tm (h : Behind s s') : s'.tm s'.snap = s.tm s.snap := by
  rw [h.snap]
  unfold Rs.Nd.tm
  rw [← Rf.tmL_take s'.log (Nat.le_refl s.snap), ← Rf.tmL_take s.log (Nat.le_refl s.snap), h.same]
theorem Behind.no (h : Behind s s') (hw : rWrite s s' (fr s.log s'.log) = false) : s'.log = s.log ∧ s'.term = s.term ∧ s'.vote = s.vote := by
  unfold rWrite at hw
  have h1 := of_decide_eq_false hw
  have h2 : ¬ 0 < fr s.log s'.log := fun h => h1 (.inr h)
  have h3 : s'.term = s.term ∧ s'.vote = s.vote := Classical.byContradiction fun h => h1 (.inl h)
  refine ⟨?_, h3⟩
  unfold fr at h2
  by_cases he : s'.log = s.log
  · exact he
  · rw [if_neg he] at h2; omega
theorem rents_len {frm : Nat} (h : s'.log.length ≤ 1000000) : (rEnts s' frm).length ≤ 1000000 := by
  unfold rEnts; split
  · exact Nat.zero_le _
  · rw [List.length_drop]; omega
theorem rents_dat {frm B : Nat} (h : ∀ x ∈ s'.log, x.data.length ≤ B) : ∀ x ∈ rEnts s' frm, x.data.length ≤ B := by
  unfold rEnts; split
  · exact fun x hx => nomatch hx
  · exact fun x hx => h x (List.mem_of_mem_drop hx)
theorem done_same {e : EV} (h : Behind s s') (hk : e.kind ≠ 4 ∧ e.kind ≠ 5) (hv : s.term ≤ s'.term) (hv2 : s'.term = s.term → s.vote ≠ 0 → s'.vote = s.vote) (hl : s.log.length ≤ 1000000 ∧ s'.log.length ≤ 1000000) (hi : e.idx ≤ 1000000)
    (hd : ∀ x ∈ s.log, x.data.length ≤ 140737488351232) (hd' : ∀ x ∈ s'.log, x.data.length ≤ 140737488351232) (hm : ∀ m ∈ o, ∀ x ∈ m.es, x.data.length ≤ 140737488351232) :
    DoneOk e (rdyOf s s' (fr s.log s'.log) fl o) s s s' := by
  obtain ⟨y1, y2, y3⟩ := h.yes
  refine ⟨fun hh => ?_, fun hw => (h.no hw).2, ⟨h.len.1, hl.1⟩, fun h4 => absurd h4 hk.1, fun h5 => absurd h5 hk.2, fun _ _ => rfl, fun _ => ⟨y1, y2, rfl, h.snap, y3, h.tm⟩, fun hw => ⟨h.snap, (h.no hw).1⟩, ⟨rfl, rfl⟩, ⟨hl.1, hi, rents_len hl.2⟩, hd, hd, rents_dat hd', hm⟩
  rcases hh with hh | ⟨h1, h2, h3⟩
  · have : s'.term < s.term := hh
    omega
  · exact h3 (hv2 h1 h2)
theorem done_compact {e : EV} (hk : e.kind = 4) (hi : s.snap < e.idx ∧ e.idx ≤ s.log.length) (hl : s.log.length ≤ 1000000) (hd : ∀ x ∈ s.log, x.data.length ≤ 140737488351232) :
    DoneOk e (rdyOf s (Rs.compact e.idx s) 0 fl []) s { s with snap := e.idx } (Rs.compact e.idx s) := by
  have hw : rWrite s (Rs.compact e.idx s) 0 = false := decide_eq_false (by
    rintro (h | h)
    · exact h ⟨rfl, rfl⟩
    · omega)
  refine ⟨fun hh => ?_, fun _ => ⟨rfl, rfl⟩, ⟨by omega, hl⟩, fun _ => ⟨hi.1, hi.2, rfl⟩, fun h5 => by omega, fun h4 => absurd hk h4, fun h => ?_, fun _ => ⟨rfl, rfl⟩, ⟨rfl, rfl⟩, ⟨hl, by omega, Nat.zero_le _⟩, hd, hd, (fun x hx => nomatch hx), fun m hm => nomatch hm⟩
  · rcases hh with hh | ⟨_, _, h3⟩
    · exact absurd (show s.term < s.term from hh) (Nat.lt_irrefl _)
    · exact h3 rfl
  · rw [show (rdyOf s (Rs.compact e.idx s) 0 fl []).write = false from hw] at h; cases h
theorem done_installed {e : EV} {L : List Rf.Ent} (hk : e.kind = 5) (hi : e.idx = L.length) (ht : Rf.tmL L L.length = e.term) (hsn : s.snap ≤ s.log.length) (hl : s.log.length ≤ 1000000 ∧ L.length ≤ 1000000) (hd : ∀ x ∈ s.log, x.data.length ≤ 140737488351232) (hd2 : ∀ x ∈ L, x.data.length ≤ 140737488351232) :
    DoneOk e (rdyOf s (Rs.installed L s) (e.idx + 1) fl []) s { s with snap := e.idx, log := (Rs.installed L s).log.take e.idx } (Rs.installed L s) := by
  obtain ⟨s', hs'⟩ : ∃ s', s' = Rs.installed L s := ⟨_, rfl⟩
  rw [← hs']
  have a1 : s'.term = s.term ∧ s'.vote = s.vote ∧ s'.snap = e.idx := by rw [hs', hi]; exact ⟨rfl, rfl, rfl⟩
  have a2 : e.idx ≤ s'.log.length ∧ Rf.tmL s'.log e.idx = e.term ∧ s'.log.length ≤ 1000000 ∧ ∀ x ∈ s'.log, x.data.length ≤ 140737488351232 := by
    rw [hs']
    unfold Rs.installed
    dsimp only
    split
    · rename_i h
      rw [hi]
      exact ⟨h.1, by rw [← ht]; exact h.2, hl.1, hd⟩
    · rw [hi]; exact ⟨Nat.le_refl _, ht, hl.2, hd2⟩
  obtain ⟨b1, b2, b3, b4⟩ := a2
  have hL0 : (s'.log.take e.idx).length = e.idx := by rw [List.length_take]; omega
  have hT : Rf.tmL (s'.log.take e.idx) e.idx = e.term := by rw [Rf.tmL_take _ (Nat.le_refl _)]; exact b2
  have hF : rFrom s' (e.idx + 1) = e.idx + 1 := if_neg (by omega)
  have hE : rEnts s' (e.idx + 1) = s'.log.drop e.idx := if_neg (by omega)
  have hw : rWrite s s' (e.idx + 1) = true := decide_eq_true (.inr (by omega))
  refine ⟨fun hh => ?_, fun h => ?_, ⟨hsn, hl.1⟩, fun h4 => by omega, fun _ => ⟨_, hL0, hT, rfl⟩, fun _ h5 => absurd hk h5, fun _ => ⟨?_, ?_, rfl, a1.2.2, ?_, ?_⟩, fun h => ?_, ⟨rfl, rfl⟩, ⟨?_, by omega, rents_len (frm := e.idx + 1) b3⟩, hd, fun x hx => b4 x (List.mem_of_mem_take hx), rents_dat (frm := e.idx + 1) b4, fun m hm => nomatch hm⟩
  · rcases hh with hh | ⟨_, _, h3⟩
    · have : s'.term < s.term := hh
      omega
    · exact h3 a1.2.1
  · rw [show (rdyOf s s' (e.idx + 1) fl []).write = true from hw] at h; cases h
  · show e.idx < rFrom s' (e.idx + 1); rw [hF]; omega
  · show rFrom s' (e.idx + 1) ≤ (s'.log.take e.idx).length + 1; rw [hF, hL0]; exact Nat.le_refl _
  · show (s'.log.take e.idx).take (rFrom s' (e.idx + 1) - 1) ++ rEnts s' (e.idx + 1) = s'.log
    rw [hF, hE, Nat.add_sub_cancel, List.take_take, Nat.min_self, List.take_append_drop]
  · show Rf.tmL s'.log s'.snap = Rf.tmL (s'.log.take e.idx) e.idx
    rw [a1.2.2, hT, b2]
  · rw [show (rdyOf s s' (e.idx + 1) fl []).write = true from hw] at h; cases h
  · show (s'.log.take e.idx).length ≤ 1000000; rw [hL0]; omega
end
end Go.SL
namespace Go.SL
open Go.Proofs Go.Proofs.YtocogcgnahbpkaaGreat
open Rs (Nd Gh)
section
variable {n i j : Nat} {nd nd' : Nat → Nd} {net net' : List Rf.Msg} {g g' : Gh}
theorem known_at (h : Rs.Inv n nd net g) (h1 : 1 ≤ j) (hj : j ≤ (nd i).commit) {x : Rf.Ent} (hx : (nd i).log[j - 1]? = some x) : ∃ u, Rs.KnownOK n (fun q => (nd q).term) g j x u := by
  rcases (h.nds i).comm.2 with h0 | ⟨t0, c', a, b, d, _⟩
  · omega
  · exact ⟨t0, h1, t0, c', .inl (Nat.le_refl _), Nat.le_trans hj a, b, by rw [← Rs.getElem?_of_take d h1 hj]; exact hx⟩
theorem behind_of (h : Rs.Inv n nd net g) (h' : Rs.Inv n nd' net' g') (e : Rs.Ext nd nd' g g') (hc : (nd i).commit ≤ (nd' i).commit) (hs : (nd' i).snap = (nd i).snap) : Behind (nd i) (nd' i) := by
  have a1 := (h.nds i).snap
  have a2 := (h.nds i).comm.1
  have a3 := (h'.nds i).comm.1
  refine ⟨hs, ?_, by omega, by omega⟩
  apply List.ext_getElem?
  intro k
  by_cases hk : k < (nd i).snap
  · rw [List.getElem?_take_of_lt hk, List.getElem?_take_of_lt hk]
    obtain ⟨x, hx⟩ : ∃ x, (nd i).log[k]? = some x := ⟨_, List.getElem?_eq_getElem (by omega)⟩
    obtain ⟨u, hu⟩ := known_at (i := i) (j := k + 1) h (by omega) (by omega) hx
    have := h'.known (i := i) (hu.ext e) (by omega)
    rw [hx]; exact this
  · rw [List.getElem?_eq_none (by rw [List.length_take]; omega), List.getElem?_eq_none (by rw [List.length_take]; omega)]
def mgOf (c : Rf.Cfg) (nd : Nat → Nd) (g : Gh) : MG := ⟨g.lid, g.voted, fun j e u => Rs.KnownOK c.n (fun q => (nd q).term) g j e u⟩
theorem mg_le {c : Rf.Cfg} (e : Rs.Ext nd nd' g g') : MG.le (mgOf c nd g) (mgOf c nd' g') := ⟨e.lid, e.voted, fun _ _ _ h => h.ext e⟩
theorem tel_of {c : Rf.Cfg} {A frm hi : Nat} {fl : Nat × Nat} {o : List Rf.Msg} {x : SC} {s : Nd} (h : Rs.Ok c A nd net g) (hA : A ≤ 3000) (hcn : c.n ≤ 5) (hi' : 1 ≤ i ∧ i ≤ c.n) (hx : x.id = i) (hcm : x.cm ≤ (nd i).commit) (hh : hi ≤ 1000000) :
    TelOk (mgOf c nd g) x (nd i) (rdyOf s (nd i) frm fl o) hi := by
  have hN := h.inv.nds i
  have hS := h.soft i hi'.1 hi'.2
  have hf := h.fin hi'
  have ht := hS.term
  have hc1 := hN.comm.1
  refine ⟨fun _ => ?_, fun hr => ⟨?_, ?_⟩, fun hr _ j en u hk hu _ => h.inv.complete hk hr hu, hcm, hc1, fun j en u hk hj _ => h.inv.known hk hj, fun j en _ hj hs he => h.inv.knows (by omega) hj (Nat.lt_of_lt_of_le hs hj) he, Nat.le_trans hN.snap hc1, by omega, hh, by omega, ?_⟩
  · show g.voted (nd i).term x.id = (nd i).vote; rw [hx]; exact hN.voteN
  · show g.lid (nd i).term = x.id; rw [hx]; exact (hN.lead hr).1
  · show (nd i).leader = x.id; rw [hx, hS.lead hr, hN.id]
  · show (nd i).term ≤ _; omega
end
end Go.SL
namespace Go.SL
open Go.Proofs Go.Proofs.YtocogcgnahbpkaaGreat
open Rs (Nd)
section
variable {c : Rf.Cfg} {d : Int} {s : Nd} {m : Rf.Msg}
theorem lead_snap : (Rs.lead c s).1.snap = s.snap := by
  unfold Rs.lead
  simp only
  split <;> rfl
theorem stand_snap {h : Nat} : (Rs.stand c d h s).1.snap = s.snap := by
  unfold Rs.stand
  simp only
  split
  · rw [lead_snap]; rfl
  · rfl
theorem begin_snap : (Rs.begin_ c d s).1.snap = s.snap := by
  unfold Rs.begin_
  simp only
  split
  · rfl
  · split
    · rw [stand_snap]; rfl
    · rfl
theorem tick_snap : (Rs.tick c d s).1.snap = s.snap := by
  unfold Rs.tick
  simp only
  split
  · split
    · rw [begin_snap]
    · rfl
  · split
    · rfl
    · by_cases he : c.most ≤ s.elapsed + 1
      · simp only [if_pos he]
        split <;> rfl
      · simp only [if_neg he]
        split <;> rfl
theorem propose_snap {l : List (List Int)} : (Rs.propose c l s).1.snap = s.snap := rfl
theorem handOver_snap {p : Nat} : (Rs.handOver c p s).1.snap = s.snap := by
  unfold Rs.handOver
  simp only
  try (split <;> rfl)
theorem learns_snap : (Rs.learns c m s).1.snap = s.snap := by
  unfold Rs.learns
  simp only
  split
  · split <;> rfl
  · split
    · split
      · rfl
      · split <;> rfl
    · rfl
theorem kinds_snap : (Rs.kinds c d m s).1.snap = s.snap := by
  unfold Rs.kinds
  split
  · unfold Rs.preVote; split <;> rfl
  · unfold Rs.preReply
    split
    · rfl
    · simp only
      split
      · rw [stand_snap]
      · rfl
  · unfold Rs.vote; split <;> rfl
  · unfold Rs.voteReply
    split
    · rfl
    · split
      · simp only
        split
        · rw [lead_snap]
        · rfl
      · simp only
        have : (if m.src ∈ s.gr then s else { s with rf := Rs.put s.rf m.src }).snap = s.snap := by split <;> rfl
        generalize (if m.src ∈ s.gr then s else { s with rf := Rs.put s.rf m.src }) = s1 at this ⊢
        split <;> exact this
  · unfold Rs.append
    simp only
    split
    · rfl
    · split
      · rfl
      · split <;> rfl
  · unfold Rs.appendReply
    split
    · rfl
    · exact learns_snap
  · unfold Rs.snapshot
    simp only
    split
    · rfl
    · split <;> rfl
  · unfold Rs.takeOver
    split
    · rw [stand_snap]
    · rfl
  · rfl
theorem message_snap : (Rs.message c d m s).1.snap = s.snap := by
  unfold Rs.message
  split
  · rfl
  · split
    · rw [kinds_snap]; rfl
    · split
      · rfl
      · rw [kinds_snap]
end
end Go.SL
namespace Go.SL
open Go.Proofs Go.Proofs.YtocogcgnahbpkaaGreat
open Rs (Nd)
def DE (l : List Rf.Ent) : Prop := ∀ x ∈ l, x.data.length ≤ 140737488351232
structure FM (m : Rf.Msg) : Prop where
  dat : DE m.es
  idx : m.kind ≠ 5 → m.kind ≠ 7 → m.idx ≤ 65000 ∧ m.commit = 0
  hint : m.hint ≤ 65000
def FMs (o : List Rf.Msg) : Prop := ∀ m ∈ o, FM m
theorem DE.app {l l' : List Rf.Ent} (h : DE l) (h' : DE l') : DE (l ++ l') := fun x hx => (List.mem_append.1 hx).elim (h x) (h' x)
theorem DE.take {l : List Rf.Ent} (h : DE l) (k : Nat) : DE (l.take k) := fun x hx => h x (List.mem_of_mem_take hx)
theorem DE.drop {l : List Rf.Ent} (h : DE l) (k : Nat) : DE (l.drop k) := fun x hx => h x (List.mem_of_mem_drop hx)
theorem DE.nil : DE [] := fun _ h => nomatch h
theorem DE.one {t : Nat} : DE [⟨t, []⟩] := fun x hx => by obtain rfl := List.mem_singleton.1 hx; exact Nat.zero_le _
theorem FMs.nil : FMs [] := fun _ h => nomatch h
theorem FMs.one {m : Rf.Msg} (h : FM m) : FMs [m] := fun x hx => by obtain rfl := List.mem_singleton.1 hx; exact h
theorem FMs.app {o o' : List Rf.Msg} (h : FMs o) (h' : FMs o') : FMs (o ++ o') := fun x hx => (List.mem_append.1 hx).elim (h x) (h' x)
section
variable {c : Rf.Cfg} {d : Int} {s : Nd} {m : Rf.Msg}
def Fine (p : Nd × List Rf.Msg) : Prop := DE p.1.log ∧ FMs p.2
theorem fm_app {p : Nat} (h : DE s.log) : FM (Rs.app c s p) := by
  unfold Rs.app
  split
  · exact ⟨.nil, fun _ h => absurd rfl h, Nat.zero_le _⟩
  · exact ⟨(h.drop _).take _, fun h => absurd rfl h, Nat.zero_le _⟩
theorem fm_apps (h : DE s.log) : FMs (Rs.apps c s) := fun m hm => by
  obtain ⟨p, _, rfl⟩ := List.mem_map.1 hm
  exact fm_app h
theorem fm_re {k T x h : Nat} {r : Bool} (hx : x ≤ 65000) (hh : h ≤ 65000) : FM (Rs.re s m k T x r h) := ⟨.nil, fun _ _ => ⟨hx, rfl⟩, hh⟩
theorem lead_fine (h : DE s.log) : Fine (Rs.lead c s) := by
  unfold Rs.lead
  simp only
  split
  · exact ⟨h.app .one, fm_apps (h.app .one)⟩
  · exact ⟨h, fm_apps h⟩
theorem stand_fine {hint : Nat} (h : DE s.log) (hs : s.log.length ≤ 65000) (hh : hint ≤ 65000) : Fine (Rs.stand c d hint s) := by
  unfold Rs.stand
  simp only
  split
  · exact lead_fine h
  · refine ⟨h, fun m hm => ?_⟩
    obtain ⟨p, _, rfl⟩ := List.mem_map.1 hm
    exact ⟨.nil, fun _ _ => ⟨hs, rfl⟩, hh⟩
theorem begin_fine (h : DE s.log) (hs : s.log.length ≤ 65000) : Fine (Rs.begin_ c d s) := by
  unfold Rs.begin_
  simp only
  split
  · exact ⟨h, .nil⟩
  · split
    · exact stand_fine h hs (Nat.zero_le _)
    · refine ⟨h, fun m hm => ?_⟩
      obtain ⟨p, _, rfl⟩ := List.mem_map.1 hm
      exact ⟨.nil, fun _ _ => ⟨hs, rfl⟩, Nat.zero_le _⟩
theorem tick_fine (h : DE s.log) (hs : s.log.length ≤ 65000) : Fine (Rs.tick c d s) := by
  rw [tick_eq]
  have hE : ∀ t : Nd, DE t.log → Fine (tkE c t) := fun t ht => by
    unfold tkE
    split
    · exact ⟨ht, fm_apps (s := { t with beat := 0 }) ht⟩
    · exact ⟨ht, .nil⟩
  split
  · split
    · exact begin_fine h hs
    · exact ⟨h, .nil⟩
  · split
    · split
      · exact hE _ h
      · exact ⟨h, .nil⟩
    · exact hE _ h
theorem propose_fine {l : List (List Int)} (h : DE s.log) (hl : ∀ b ∈ l, b.length ≤ 140737488351232) : Fine (Rs.propose c l s) := by
  have h1 : DE (s.log ++ l.map fun b => ⟨s.term, b⟩) := h.app fun x hx => by
    obtain ⟨b, hb, rfl⟩ := List.mem_map.1 hx
    exact hl b hb
  exact ⟨h1, fm_apps h1⟩
theorem handOver_fine {p : Nat} (h : DE s.log) : Fine (Rs.handOver c p s) := by
  unfold Rs.handOver
  simp only
  split
  · exact ⟨h, .one ⟨.nil, fun _ _ => ⟨Nat.zero_le _, rfl⟩, Nat.zero_le _⟩⟩
  · exact ⟨h, .one (fm_app (s := { s with heir := p, elapsed := 0 }) h)⟩
theorem merge_fine {room : Nat} : ∀ {es log : List Rf.Ent} {i : Nat}, DE log → DE es → DE (Rs.merge room log i es).1 ∧ (Rs.merge room log i es).2 ≤ i + es.length
  | [], _, _, h, _ => ⟨h, Nat.le_refl _⟩
  | e :: es, log, i, h, h' => by
    unfold Rs.merge
    split
    · have := merge_fine (room := room) (i := i + 1) h (h'.drop 1)
      exact ⟨this.1, by have h2 := this.2; rw [List.length_cons]; simp only [List.drop_succ_cons, List.drop_zero] at h2; omega⟩
    · refine ⟨(h.take _).app (h'.take _), ?_⟩
      have : ((e :: es).take (room - (log.take i).length)).length ≤ (e :: es).length := by rw [List.length_take]; omega
      dsimp only; omega
theorem learns_fine (h : DE s.log) : Fine (Rs.learns c m s) := by
  unfold Rs.learns
  simp only
  split
  · split
    · exact ⟨h, .one (fm_app h)⟩
    · exact ⟨h, .nil⟩
  · split
    · split
      · exact ⟨h, fm_apps h⟩
      · split
        · exact ⟨h, .one (fm_app h)⟩
        · exact ⟨h, .nil⟩
    · exact ⟨h, .nil⟩
theorem kinds_fine (h : DE s.log) (hs : s.log.length ≤ 65000) (hc : s.commit ≤ 65000) (hm : FM m) (hi : m.idx + m.es.length ≤ 65000) : Fine (Rs.kinds c d m s) := by
  unfold Rs.kinds
  split
  · unfold Rs.preVote; split <;> exact ⟨h, .one (fm_re (Nat.zero_le _) (Nat.zero_le _))⟩
  · unfold Rs.preReply
    split
    · exact ⟨h, .nil⟩
    · simp only
      split
      · exact stand_fine h hs (Nat.zero_le _)
      · exact ⟨h, .nil⟩
  · unfold Rs.vote; split <;> exact ⟨h, .one (fm_re (Nat.zero_le _) (Nat.zero_le _))⟩
  · unfold Rs.voteReply
    split
    · exact ⟨h, .nil⟩
    · split
      · simp only
        split
        · exact lead_fine h
        · exact ⟨h, .nil⟩
      · simp only
        have h1 : DE (if m.src ∈ s.gr then s else { s with rf := Rs.put s.rf m.src }).log := by split <;> exact h
        generalize (if m.src ∈ s.gr then s else { s with rf := Rs.put s.rf m.src }) = s1 at h1 ⊢
        split <;> exact ⟨h1, .nil⟩
  · unfold Rs.append
    simp only
    split
    · exact ⟨h, .one (fm_re hc (Nat.zero_le _))⟩
    · split
      · exact ⟨h, .one (fm_re (by omega) hs)⟩
      · split
        · exact ⟨h, .one (fm_re (by omega) (by omega))⟩
        · have h2 := merge_fine (room := s.snap + 65536) (i := m.idx) h hm.dat
          exact ⟨h2.1, .one (fm_re (Nat.le_trans h2.2 hi) (Nat.zero_le _))⟩
  · unfold Rs.appendReply
    split
    · exact ⟨h, .nil⟩
    · obtain ⟨h1, h2⟩ := learns_fine (c := c) (m := m) h
      refine ⟨h1, ?_⟩
      show FMs (if _ then _ else _)
      split
      · exact h2.app (.one ⟨.nil, fun _ _ => ⟨Nat.zero_le _, rfl⟩, Nat.zero_le _⟩)
      · exact h2
  · unfold Rs.snapshot
    simp only
    split
    · exact ⟨h, .one (fm_re hc (Nat.zero_le _))⟩
    · split
      · exact ⟨h, .one (fm_re (by omega) (Nat.zero_le _))⟩
      · exact ⟨h, .one (fm_re (by omega) hc)⟩
  · unfold Rs.takeOver
    split
    · exact stand_fine h hs (by omega)
    · exact ⟨h, .nil⟩
  · exact ⟨h, .nil⟩
theorem message_fine (h : DE s.log) (hs : s.log.length ≤ 65000) (hc : s.commit ≤ 65000) (hm : FM m) (hi : m.idx + m.es.length ≤ 65000) : Fine (Rs.message c d m s) := by
  unfold Rs.message
  split
  · exact ⟨h, .nil⟩
  · split
    · exact kinds_fine (s := Rs.follow c d m.term _ s) h hs hc hm hi
    · split
      · refine ⟨h, ?_⟩
        unfold Rs.old
        split
        · exact .one (fm_re (by omega) (Nat.zero_le _))
        · split
          · exact .one (fm_re (Nat.zero_le _) (Nat.zero_le _))
          · split
            · exact .one (fm_re (Nat.zero_le _) (Nat.zero_le _))
            · exact .nil
      · exact kinds_fine h hs hc hm hi
end
end Go.SL
