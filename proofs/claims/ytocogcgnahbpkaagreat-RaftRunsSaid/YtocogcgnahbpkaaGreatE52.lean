/-
  A part of the proof of what E53 says at its head.
-/
import Derived.Test.YtocogcgnahbpkaaGreatE41
import Derived.Test.YtocogcgnahbpkaaGreatE51
namespace Go.SL
open Go.Proofs Go.Proofs.YtocogcgnahbpkaaGreat
open Rs (Nd Gh)
set_option maxRecDepth 10000
structure Ph (bo : Bool) (c : Rf.Cfg) (A : Nat) (g : Gh) (nd : Nat → Nd) (w : WS) : Prop where
  ok : Rs.Ok c A nd w.net g
  G : MG.le w.G (mgOf c nd g)
  len : w.S.length = c.n
  seat : ∀ k q, w.S[k]? = some q → q.s = nd (k + 1) ∧ q.x.bo = bo ∧ q.x.id = k + 1 ∧ q.x.cm = q.s.commit ∧ q.x.ro = q.s.role ∧ q.s.log.length - q.s.snap ≤ q.x.lc
  nn : w.a.nn = w.net.length
  nl : w.net.length ≤ 200
  calm : w.a.calm = false
  hi : w.a.hi ≤ 1000000
  dat : ∀ i, DE (nd i).log
  fm : FMs w.net
def Phi (bo : Bool) (c : Rf.Cfg) (K : Nat) (w : WS) : Prop := ∃ A g nd, A ≤ K ∧ Ph bo c A g nd w
theorem goesP_sl : ∀ {es : List Rf.Ent} {t T : Nat}, Rs.goesP t es T → goesP es t T
  | [], _, _, _ => trivial
  | _ :: _, _, _, h => ⟨h.1, h.2.1, goesP_sl h.2.2⟩
theorem trim_len {l : List Rf.Msg} : (trim false l).length ≤ 200 := by
  unfold trim; rw [if_neg (by decide), List.length_drop]; omega
theorem trim_sub {b : Bool} {l : List Rf.Msg} {m : Rf.Msg} (h : m ∈ trim b l) : m ∈ l := by
  unfold trim at h; split at h
  · exact h
  · exact List.mem_of_mem_drop h
theorem setN_data {nd : Nat → Nd} {i : Nat} {s : Nd} (h : ∀ i, DE (nd i).log) (hs : DE s.log) : ∀ j, DE (Rs.setN nd i s j).log := fun j => by
  by_cases hj : j = i
  · rw [hj, Rs.setN_at]; exact hs
  · rw [Rs.setN_ne _ _ hj]; exact h j
theorem says_snl {c : Rf.Cfg} {A id : Nat} {o : List Rf.Msg} (h : Rs.Says c A id o) : (snL o).length ≤ 6 := by
  unfold snL; rw [List.length_map]
  exact Nat.le_trans (List.length_filter_le _ _) h.len
theorem mg_rfl {G : MG} : MG.le G G := ⟨fun _ _ => rfl, fun _ _ _ => rfl, fun _ _ _ h => h⟩
theorem MG.le.trans {G G' G'' : MG} (h : MG.le G G') (h' : MG.le G' G'') : MG.le G G'' :=
  ⟨fun t ht => by rw [h'.lid t (by rw [h.lid t ht]; exact ht), h.lid t ht], fun t n ht => by rw [h'.vt t n (by rw [h.vt t n ht]; exact ht), h.vt t n ht], fun i e u x => h'.KO i e u (h.KO i e u x)⟩
section
variable {bo : Bool} {c : Rf.Cfg} {A A' K i frm : Nat} {g g0 g' : Gh} {nd : Nat → Nd} {w : WS} {q : ST} {s' : Nd} {o netx : List Rf.Msg} {e : EV} {fl : Nat × Nat} {data : List (List Int)}
theorem Ph.in (h : Ph bo c A g nd w) (hq : w.S[i]? = some q) : 1 ≤ i + 1 ∧ i + 1 ≤ c.n := by
  have := (List.getElem?_eq_some_iff.1 hq).1
  have := h.len
  omega
theorem Ph.log (h : Ph bo c A g nd w) (hq : w.S[i]? = some q) : q.s.log.length ≤ 17 * A ∧ q.s.snap ≤ q.s.commit ∧ q.s.commit ≤ q.s.log.length := by
  rw [(h.seat i q hq).1]
  exact ⟨h.ok.fin (h.in hq), (h.ok.inv.nds _).snap, (h.ok.inv.nds _).comm.1⟩
theorem Ph.siz (hc : Rs.CfgOK c) (h : Ph bo c A g nd w) (hA : A ≤ 3000) (hq : w.S[i]? = some q) : Siz c q.s := by
  rw [(h.seat i q hq).1]
  exact siz_of hc h.ok hA (h.in hq) (h.dat _)
theorem Ph.go (hc : Rs.CfgOK c) (h : Ph bo c A g nd w) (hA : A' ≤ 3000) (hq : w.S[i]? = some q) (hx : ∀ m, m ∈ netx → m ∈ w.net)
    (h' : Rs.Ok c A' (Rs.setN nd (i + 1) s') (netx ++ o) g') (hdone : ∃ dB, DoneOk e (rdyOf q.s s' frm fl o) q.s dB s') (hcm : q.s.commit ≤ s'.commit) (hs' : DE s'.log) (ho : FMs o) (hol : Rs.Says c A' s'.id o) :
    StIn e w.a q.x q.s (mgOf c (Rs.setN nd (i + 1) s') g') w.net s' (rdyOf q.s s' frm fl o) ∧ Keeps (Phi bo c A') w i q netx (mgOf c (Rs.setN nd (i + 1) s') g') s' (rdyOf q.s s' frm fl o) := by
  have hi := h.in hq
  obtain ⟨q1, q2, q3, q4, q5, q6⟩ := h.seat i q hq
  have hn := hc.n
  have hf := h'.fin hi
  have hcl := (h'.inv.nds (i + 1)).comm.1
  rw [Rs.setN_at] at hf hcl
  have hT := tel_of (frm := frm) (fl := fl) (o := o) (hi := w.a.hi) (x := q.x) (s := q.s) (i := i + 1) h' hA hn.2 hi q3 (by rw [Rs.setN_at, q4]; exact hcm) h.hi
  rw [Rs.setN_at] at hT
  refine ⟨⟨hdone, ⟨rents_len (by omega), by have := hol.len; show o.length ≤ 1000; omega, fun m hm => ?_, by have := says_snl hol; show (snL o).length ≤ 1000; omega⟩, hT, q6, h.nn, by have := h.nl; omega⟩, fun hi NA nc lA lc b1 b2 b3 => ⟨A', g', _, Nat.le_refl _, ?_, mg_rfl, ?_, fun k p hp => ?_, rfl, ?_, h.calm, ?_, setN_data h.dat hs', fun m hm => ?_⟩⟩
  · have := (h'.inv.msgs m (List.mem_append_right _ hm)).1.form.len
    show m.es.length ≤ 1000000
    omega
  · exact h'.sub fun m hm => trim_sub hm
  · show (w.S.set i _).length = _; rw [List.length_set]; exact h.len
  · replace hp : (w.S.set i _)[k]? = some p := hp
    by_cases hk : k = i
    · subst hk
      rw [List.getElem?_set_self (List.getElem?_eq_some_iff.1 hq).1] at hp
      injection hp with hp
      subst hp
      exact ⟨(Rs.setN_at ..).symm, q2, q3, rfl, rfl, b3⟩
    · rw [List.getElem?_set_ne (by omega)] at hp
      rw [Rs.setN_ne _ _ (by omega)]
      exact h.seat k p hp
  · show (trim w.a.calm _).length ≤ 200; rw [h.calm]; exact trim_len
  · have : (rdyOf q.s s' frm fl o).commit = s'.commit := rfl
    have := h.hi
    show hi ≤ 1000000
    omega
  · rcases List.mem_append.1 (trim_sub hm) with x | x
    · exact h.fm m (hx m x)
    · exact ho m x
theorem Ph.same (hc : Rs.CfgOK c) (h : Ph bo c A g nd w) (hA : A' ≤ 3000) (hAA : A ≤ 3000) (hq : w.S[i]? = some q) (hx : ∀ m, m ∈ netx → m ∈ w.net) (h0 : Rs.Inv c.n nd w.net g0) (hG : MG.le (mgOf c nd g) (mgOf c nd g0))
    (h' : Rs.Ok c A' (Rs.setN nd (i + 1) s') (netx ++ o) g') (hE : Rs.Ext nd (Rs.setN nd (i + 1) s') g0 g') (hk : e.kind ≠ 4 ∧ e.kind ≠ 5) (hi : e.idx ≤ 1000000) (hcm : q.s.commit ≤ s'.commit) (hsn : s'.snap = q.s.snap) (hs' : DE s'.log) (ho : FMs o) (hol : Rs.Says c A' s'.id o)
    (hev : OutOk c s' (fr q.s.log s'.log) o → EvGo c q.s e data s' (rdyOf q.s s' (fr q.s.log s'.log) fl o) 0) :
    ∃ G, MG.le w.G G ∧ EvGo c q.s e data s' (rdyOf q.s s' (fr q.s.log s'.log) fl o) 0 ∧ StIn e w.a q.x q.s G w.net s' (rdyOf q.s s' (fr q.s.log s'.log) fl o) ∧ Keeps (Phi bo c A') w i q netx G s' (rdyOf q.s s' (fr q.s.log s'.log) fl o) := by
  have hin := h.in hq
  obtain ⟨q1, q2, q3, q4, q5, q6⟩ := h.seat i q hq
  have e1 : Rs.setN nd (i + 1) s' (i + 1) = s' := Rs.setN_at ..
  have hB : Behind q.s s' := by
    have := behind_of (i := i + 1) h0 h'.inv hE (by rw [e1, ← q1]; exact hcm) (by rw [e1, ← q1]; exact hsn)
    rwa [e1, ← q1] at this
  have hS := siz_of hc h' hA hin (by rw [e1]; exact hs')
  rw [e1] at hS
  have hf := h'.fin hin
  rw [e1] at hf
  have hl := (h.log hq).1
  have hD := done_same (e := e) (fl := fl) (o := o) hB hk (by have := hE.tm (i + 1); rwa [e1, ← q1] at this) (fun ht hv => by
    have := h0.oneVote (i := i + 1) h'.inv hE (by rw [e1, ← q1]; exact ht) (by rw [← q1]; exact hv)
    rwa [e1, ← q1] at this) ⟨by omega, by omega⟩ hi (by rw [q1]; exact h.dat _) hs' fun m hm x hx => (ho m hm).dat x hx
  obtain ⟨a, b⟩ := h.go (e := e) (frm := fr q.s.log s'.log) (fl := fl) hc hA hq hx h' ⟨_, hD⟩ hcm hs' ho hol
  exact ⟨_, (h.G.trans hG).trans (mg_le hE), hev ⟨hS.sn, hB.frm, rSnaps_says hol⟩, a, b⟩
theorem can_tick (hc : Rs.CfgOK c) (h : Ph bo c A g nd w) (hA : A + 1 ≤ 3000) (hq : w.S[i]? = some q) (dr : Int) : Can c (Phi bo c (A + 1)) w i q (evT dr) [] := by
  have hin := h.in hq
  obtain ⟨q1, q2, q3, q4, q5, q6⟩ := h.seat i q hq
  have hl := h.log hq
  obtain ⟨g', h', hE⟩ := h.ok.tick (draw := dr) (net' := w.net ++ (Rs.tick c dr (nd (i + 1))).2) hc hin fun m hm => List.mem_append.1 hm
  rw [← q1] at h' hE
  have hF := tick_fine (c := c) (d := dr) (s := q.s) (by rw [q1]; exact h.dat _) (by omega)
  have hid : (Rs.tick c dr q.s).1.id = q.s.id := by
    have := (h'.inv.nds (i + 1)).id
    rw [Rs.setN_at] at this
    rw [this, q1, (h.ok.inv.nds _).id]
  exact ⟨_, _, h.same hc hA (by omega) hq (fun m hm => hm) h.ok.inv mg_rfl h' hE ⟨(by decide : (1 : Nat) ≠ 4), (by decide : (1 : Nat) ≠ 5)⟩ (Nat.zero_le _) Rs.tick_commit tick_snap hF.1 hF.2 (by rw [hid]; exact .tick hc) fun ho =>
    ev_tick (h.siz hc (by omega) hq) rfl (by rw [q1]; exact tickIn_of hc h.ok (by omega) hin) ho⟩
theorem ldn_of (h : Ph bo c A g nd w) (hq : w.S[i]? = some q) (hr : q.s.role = 4) : LdN c q.s := fun p hp => by
  obtain ⟨q1, _⟩ := h.seat i q hq
  rw [q1] at hp hr ⊢
  have hN := h.ok.inv.nds (i + 1)
  have h4 := (hN.lead hr).2.2.2 p (by have := (oth_le hp).2.2; rwa [hN.id] at this)
  omega
theorem can_propose (hc : Rs.CfgOK c) (h : Ph bo c A g nd w) (hA : A + 1 ≤ 3000) (hq : w.S[i]? = some q) (hr : q.s.role = 4) (hh : q.s.heir = 0) (h16 : 1 ≤ data.length ∧ data.length ≤ 16) (hd : ∀ b ∈ data, b.length ≤ 140737488351232) :
    ∃ s' r G, MG.le w.G G ∧ EvGo c q.s evP data s' r 0 ∧ StIn evP w.a q.x q.s G w.net s' r ∧ Keeps (Phi bo c (A + 1)) w i q w.net G s' r ∧ r.role = 4 := by
  have hin := h.in hq
  obtain ⟨q1, q2, q3, q4, q5, q6⟩ := h.seat i q hq
  have hl := h.log hq
  obtain ⟨g', h', hE⟩ := h.ok.propose (net' := w.net ++ (Rs.propose c data (nd (i + 1))).2) hc hin (by rw [← q1]; exact hr) data h16.2 fun m hm => List.mem_append.1 hm
  rw [← q1] at h' hE
  have hF := propose_fine (c := c) (l := data) (s := q.s) (by rw [q1]; exact h.dat _) hd
  obtain ⟨G, k1, k2, k3, k4⟩ := h.same (g0 := g.more 1) (e := evP) hc hA (by omega) hq (fun m hm => hm) h.ok.more.inv ⟨fun _ _ => rfl, fun _ _ _ => rfl, fun _ _ _ x => Rs.KnownOK.more x 1⟩ h' hE (by decide) (Nat.zero_le _) Rs.propose_commit propose_snap hF.1 hF.2 (show Rs.Says c (A + 1) q.s.id _ from .propose hc _) fun ho =>
    ev_propose (h.siz hc (by omega) hq) rfl (ldn_of h hq hr) hr hh h16 (by have := h16.2; omega) hd ho
  exact ⟨_, _, G, k1, k2, k3, k4, hr⟩
end
end Go.SL
namespace Go.SL
open Go.Proofs Go.Proofs.YtocogcgnahbpkaaGreat
open Rs (Nd Gh)
set_option maxRecDepth 10000
section
variable {bo : Bool} {c : Rf.Cfg} {A A' K i j frm : Nat} {g g0 g' : Gh} {nd : Nat → Nd} {w : WS} {q qb : ST} {s' : Nd} {o netx : List Rf.Msg} {e : EV} {fl : Nat × Nat} {data : List (List Int)} {m : Rf.Msg} {ag : Bool} {dr : Int}
theorem nums_of (h : Ph bo c A g nd w) (hA : A ≤ 3000) (hm : m ∈ w.net) : m.idx + m.es.length ≤ 65000 ∧ m.commit ≤ 65000 := by
  have hM := (h.ok.inv.msgs m hm).1
  have hT := (h.ok.term hm).1
  have hF := h.fm m hm
  by_cases hk : m.kind = 5 ∨ m.kind = 7
  · obtain ⟨_, a, _, _, b, _⟩ := hM.app hk
    have h1 := h.ok.inv.gh.len m.term
    have h2 := h.ok.pn
    omega
  · have := hF.idx (by omega) (by omega)
    rw [hM.form.es (by omega)]
    exact ⟨this.1, by omega⟩
theorem netOf_sub (hx : m ∈ netOf ag j o) : m ∈ o := by
  unfold netOf at hx; split at hx
  · exact hx
  · exact List.mem_of_mem_eraseIdx hx
theorem fmd_of (h : Ph bo c A g nd w) (hA : A ≤ 3000) (hm : m ∈ w.net) (hq : w.S[m.dst - 1]? = some q) : Fmd c q.s m := by
  have hM := (h.ok.inv.msgs m hm).1
  have hT := (h.ok.term hm).1
  have hF := h.fm m hm
  have hN := nums_of h hA hm
  have hd : m.dst - 1 + 1 = m.dst := by have := hM.rng.2; omega
  have hid : q.s.id = m.dst := by rw [(h.seat _ q hq).1, hd, (h.ok.inv.nds _).id]
  exact ⟨hM.form.kind, Rs.mem_others.2 ⟨hM.rng.1, by rw [hid]; exact hM.form.ne⟩, hid.symm, ⟨hM.form.term, by omega⟩, ⟨by omega, by omega, by have := hF.hint; omega, hM.form.lt⟩, hM.form.zero, hM.form.es, fun hk => by have := hM.form.seven hk; omega, fun hk hr => by rcases hM.form.hint hk hr with x | x <;> omega, hM.form.len, goesP_sl (h.ok.inv.goes hm)⟩
theorem right5_of (h : Ph bo c A g nd w) (hm : m ∈ w.net) (hq : w.S[m.dst - 1]? = some q) (hk : m.kind = 5 ∨ m.kind = 7) : m.term = q.s.term → q.s.role ≠ 4 := fun ht hr => by
  have hM := (h.ok.inv.msgs m hm).1
  have hd : m.dst - 1 + 1 = m.dst := by have := hM.rng.2; omega
  have q1 := (h.seat _ q hq).1
  rw [hd] at q1
  rw [q1] at ht hr
  exact h.ok.inv.right5 hm hk ⟨ht, hr⟩
theorem rgt_of (h : Ph bo c A g nd w) (hm : m ∈ w.net) (hq : w.S[m.dst - 1]? = some q) (hw : ¬ Wrg c q.s m) : Rgt c q.s m :=
  ⟨fun hk => right5_of h hm hq hk, fun hk ht hi => Classical.byContradiction fun hl => hw (.inl ⟨hk, ht, right5_of h hm hq (.inl hk), hi, hl⟩), fun hk ht hr hj => Classical.byContradiction fun hl => hw (.inr ⟨hk, ht, hr, hj, Nat.lt_of_not_le hl⟩)⟩
theorem msgIn_of (h : Ph bo c A g nd w) (hA : A ≤ 3000) (hm : m ∈ w.net) (hq : w.S[m.dst - 1]? = some q) (hw : ¬ Wrg c q.s m) : MsgIn c q.s m := by
  have hl := h.log hq
  have hR := rgt_of h hm hq hw
  have hin := h.in hq
  have hS := h.ok.soft _ hin.1 hin.2
  have hN := nums_of h hA hm
  have hT := (h.ok.term hm).1
  have q1 := (h.seat _ q hq).1
  rw [← q1] at hS
  refine ⟨by omega, by have := hS.term; omega, by omega, fun hr => ⟨fun p hp => ?_, fun hk ht hj => hR.rep hk ht hr hj⟩, fmd_of h hA hm hq, (h.fm m hm).dat, hR, fun hr => Classical.byContradiction fun hh => hr (hS.heir hh).1, fun _ => by omega⟩
  have h1 := ldn_of h hq hr p hp
  rw [q1] at hr hp h1 ⊢
  have hN := h.ok.inv.nds (m.dst - 1 + 1)
  have h4 := (hN.lead hr).2.2.2 p (by have := (oth_le hp).2.2; rwa [hN.id] at this)
  exact ⟨h1.1, h1.2, by omega⟩
theorem canM (hc : Rs.CfgOK c) (h : Ph bo c A g nd w) (hA : A ≤ 3000) (hj : w.net[j]? = some m) (hq : w.S[m.dst - 1]? = some q) (hw : ¬ Wrg c q.s m) : CanM c (Phi bo c A) w j ag dr m (m.dst - 1) q := by
  have hm := List.mem_of_getElem? hj
  have hM := (h.ok.inv.msgs m hm).1
  have hd : m.dst - 1 + 1 = m.dst := by have := hM.rng.2; omega
  have q1 := (h.seat _ q hq).1
  rw [hd] at q1
  have hl := h.log hq
  have hN := nums_of h hA hm
  obtain ⟨g', h', hE⟩ := h.ok.message (draw := dr) (net' := netOf ag j w.net ++ (Rs.message c dr m (nd m.dst)).2) hc hm (by rw [← q1]; exact (rgt_of h hm hq hw).rep) fun x hx => (List.mem_append.1 hx).imp netOf_sub _root_.id
  have hF := message_fine (c := c) (d := dr) (m := m) (s := q.s) (by rw [q1]; exact h.dat _) (by omega) (by omega) (h.fm m hm) hN.1
  have hsay := (h.ok.said (draw := dr) hc hm).2
  have hid : (Rs.message c dr m q.s).1.id = m.dst := by
    have := (h'.inv.nds m.dst).id
    rw [Rs.setN_at] at this
    rw [q1, this]
  rw [← q1] at h' hE hsay
  have h'' : Rs.Ok c A (Rs.setN nd (m.dst - 1 + 1) (Rs.message c dr m q.s).1) (netOf ag j w.net ++ (Rs.message c dr m q.s).2) g' := by rw [hd]; exact h'
  have hE' : Rs.Ext nd (Rs.setN nd (m.dst - 1 + 1) (Rs.message c dr m q.s).1) g g' := by rw [hd]; exact hE
  exact ⟨_, _, h.same (e := evM m dr) hc hA hA hq (fun m hm => netOf_sub hm) h.ok.inv mg_rfl h'' hE' ⟨(by decide : (2 : Nat) ≠ 4), (by decide : (2 : Nat) ≠ 5)⟩ (Nat.zero_le _) Rs.message_commit message_snap hF.1 hF.2 (by rw [hid]; rwa [show q.s.id = m.dst by rw [q1, (h.ok.inv.nds _).id]] at hsay) fun ho =>
    ev_msg (e := evM m dr) (h.siz hc hA hq) rfl (msgIn_of h hA hm hq hw) ho⟩
theorem evgo_wrong (hc : Rs.CfgOK c) (h : Ph bo c A g nd w) (hA : A ≤ 3000) (hj : w.net[j]? = some m) (hq : w.S[m.dst - 1]? = some q) (hw : Wrg c q.s m) : EvGo c q.s (evM m dr) [] q.s {} (161 : Nat) :=
  ev_wrong (e := evM m dr) (h.siz hc hA hq) rfl (fmd_of h hA (List.mem_of_getElem? hj) hq) hw
theorem can_compact (hc : Rs.CfgOK c) (h : Ph bo c A g nd w) (hA : A ≤ 3000) (hq : w.S[i]? = some q) {k : Nat} (hk : q.s.snap < k ∧ k ≤ q.s.commit) : Can c (Phi bo c A) w i q (evC k) [] := by
  have hin := h.in hq
  have q1 := (h.seat i q hq).1
  have hl := h.log hq
  have hD : DE q.s.log := by rw [q1]; exact h.dat _
  obtain ⟨g', h', hE⟩ := ok_compact (net' := w.net ++ []) (k := k) h.ok hin (by rw [← q1]; omega) (by rw [← q1]; exact hk.2) fun m hm => by rwa [List.append_nil] at hm
  rw [← q1] at h' hE
  have hS := siz_of hc h' hA hin (by rw [Rs.setN_at]; exact hD)
  rw [Rs.setN_at] at hS
  obtain ⟨a, b⟩ := h.go (e := evC k) (frm := 0) (fl := (0, 0)) hc hA hq (fun m hm => hm) h' ⟨_, done_compact rfl ⟨hk.1, by show k ≤ _; omega⟩ (by omega) hD⟩ (Nat.le_refl _) hD .nil .nil
  exact ⟨_, _, _, h.G.trans (mg_le hE), ev_compact (e := evC k) (h.siz hc hA hq) rfl hk ⟨hS.sn, .inl rfl, rSnaps_says (A := A) .nil⟩, a, b⟩
theorem can_install (hc : Rs.CfgOK c) (h : Ph bo c A g nd w) (hA : A ≤ 3000) (hq : w.S[i]? = some q) (hq2 : w.S[j]? = some qb) (h1 : q.s.commit < qb.s.snap) (h2 : qb.s.tm qb.s.snap ≤ q.s.term) (h3 : q.s.role ≠ 4) : Can c (Phi bo c A) w i q (evI qb.s.snap (qb.s.tm qb.s.snap)) [] := by
  have hin := h.in hq
  have q1 := (h.seat i q hq).1
  have q2 := (h.seat j qb hq2).1
  have hl := h.log hq
  have hl2 := h.log hq2
  have hD : DE q.s.log := by rw [q1]; exact h.dat _
  have hD2 : DE qb.s.log := by rw [q2]; exact h.dat _
  have hL : (qb.s.log.take qb.s.snap).length = qb.s.snap := by rw [List.length_take]; omega
  have hT : Rf.tmL (qb.s.log.take qb.s.snap) (qb.s.log.take qb.s.snap).length = qb.s.tm qb.s.snap := by rw [hL, Rf.tmL_take _ (Nat.le_refl _)]; rfl
  obtain ⟨g', h', hE⟩ := ok_installed (net' := w.net ++ []) (j := j + 1) h.ok hin (by rw [← q1]; exact h3) (by rw [← q1, ← q2]; exact h2) (by rw [← q1, ← q2]; exact h1) fun m hm => by rwa [List.append_nil] at hm
  rw [← q1, ← q2] at h' hE
  have hDI : DE (Rs.installed (qb.s.log.take qb.s.snap) q.s).log := by
    unfold Rs.installed; dsimp only; split
    · exact hD
    · exact hD2.take _
  have hS := siz_of hc h' hA hin (by rw [Rs.setN_at]; exact hDI)
  rw [Rs.setN_at] at hS
  have hlen : qb.s.snap ≤ (Rs.installed (qb.s.log.take qb.s.snap) q.s).log.length := by
    unfold Rs.installed; dsimp only; split
    · rename_i x; have := x.1; rw [hL] at this; exact this
    · rw [hL]; exact Nat.le_refl _
  obtain ⟨a, b⟩ := h.go (e := evI qb.s.snap (qb.s.tm qb.s.snap)) (frm := qb.s.snap + 1) (fl := (0, 0)) hc hA hq (fun m hm => hm) h' ⟨_, done_installed rfl hL.symm hT (by omega) ⟨by omega, by rw [hL]; omega⟩ hD (hD2.take _)⟩ (by show q.s.commit ≤ (qb.s.log.take qb.s.snap).length; omega) hDI .nil .nil
  refine ⟨_, _, _, h.G.trans (mg_le hE), ev_installed (e := evI qb.s.snap (qb.s.tm qb.s.snap)) (h.siz hc hA hq) rfl h3 ⟨h1, hL.symm, by show qb.s.snap < _; omega⟩ ⟨?_, h2⟩ hT ⟨hS.sn, .inr ⟨?_, Nat.succ_le_succ hlen⟩, rSnaps_says (A := A) .nil⟩, a, b⟩
  · have hp := (h.ok.inv.nds (j + 1)).logA.pos (k := qb.s.snap) (by omega) (by rw [← q2]; omega)
    rw [← q2] at hp
    exact hp
  · show (qb.s.log.take qb.s.snap).length < qb.s.snap + 1; omega
theorem can_hand (hc : Rs.CfgOK c) (h : Ph bo c A g nd w) (hA : A + 1 ≤ 3000) (hq : w.S[i]? = some q) (p : Nat) : Can c (Phi bo c (A + 1)) w i q (evH p) [] ∨ ∃ err : Nat, err ≠ 0 ∧ EvGo c q.s (evH p) [] q.s {} (err : Nat) := by
  have hin := h.in hq
  have q1 := (h.seat i q hq).1
  have hl := h.log hq
  have hD : DE q.s.log := by rw [q1]; exact h.dat _
  have hS := h.siz hc (by omega) hq
  by_cases hp : p ∈ oth c q.s
  · by_cases hr : q.s.role = 4
    · left
      obtain ⟨g', h', hE⟩ := h.ok.handOver (net' := w.net ++ (Rs.handOver c p (nd (i + 1))).2) hc hin (by rw [← q1]; exact hr) (by rw [← q1]; exact hp) fun m hm => List.mem_append.1 hm
      rw [← q1] at h' hE
      have hF := handOver_fine (c := c) (p := p) hD
      have ht : q.s.term < A + 1 := by
        have := (h.ok.soft _ hin.1 hin.2).term
        rw [← q1] at this; omega
      exact ⟨_, _, h.same (e := evH p) hc hA (by omega) hq (fun m hm => hm) h.ok.inv mg_rfl h' hE ⟨(by decide : (6 : Nat) ≠ 4), (by decide : (6 : Nat) ≠ 5)⟩ (Nat.zero_le _) (Nat.le_refl _) handOver_snap hF.1 hF.2 (show Rs.Says c (A + 1) q.s.id _ from .handOver ht hp) fun ho =>
        ev_handOver (e := evH p) hS rfl hr hp (ldn_of h hq hr) ho⟩
    · exact .inr ⟨162, by decide, ev_handOver_e2 (e := evH p) hS rfl hp hr⟩
  · exact .inr ⟨161, by decide, ev_handOver_e1 (e := evH p) hS rfl hp⟩
theorem far_same {p : Nat} {s : Nd} : (Rs.far p s).log = s.log ∧ (Rs.far p s).commit = s.commit ∧ (Rs.far p s).snap = s.snap := by
  unfold Rs.far; split <;> exact ⟨rfl, rfl, rfl⟩
theorem can_far (hc : Rs.CfgOK c) (h : Ph bo c A g nd w) (hA : A ≤ 3000) (hq : w.S[i]? = some q) (p : Nat) : Can c (Phi bo c A) w i q (evU p) [] ∨ ∃ err : Nat, err ≠ 0 ∧ EvGo c q.s (evU p) [] q.s {} (err : Nat) := by
  have hin := h.in hq
  have q1 := (h.seat i q hq).1
  have hD : DE q.s.log := by rw [q1]; exact h.dat _
  have hS := h.siz hc hA hq
  by_cases hp : p ∈ oth c q.s
  · left
    obtain ⟨g', h', hE⟩ := ok_far (net' := w.net ++ []) (p := p) h.ok hin fun m hm => by rwa [List.append_nil] at hm
    rw [← q1] at h' hE
    obtain ⟨f1, f2, f3⟩ := far_same (p := p) (s := q.s)
    exact ⟨_, _, h.same (e := evU p) hc hA hA hq (fun m hm => hm) h.ok.inv mg_rfl h' hE ⟨(by decide : (7 : Nat) ≠ 4), (by decide : (7 : Nat) ≠ 5)⟩ (Nat.zero_le _) (by rw [f2]; exact Nat.le_refl _) f3 (by rw [f1]; exact hD) .nil .nil fun ho =>
      ev_far (e := evU p) hS rfl hp ho⟩
  · exact .inr ⟨161, by decide, ev_far_e (e := evU p) hS rfl hp⟩
theorem stOk_of (h : Ph bo c A g nd w) (hA : A ≤ 3000) (hq : w.S[i]? = some q) {k : Nat} (hk : q.s.snap ≤ k ∧ k ≤ q.s.commit) : StOk c (reb q.s k) := by
  have hin := h.in hq
  have q1 := (h.seat i q hq).1
  have hl := h.log hq
  have hN := h.ok.inv.nds (i + 1)
  have hS := h.ok.soft _ hin.1 hin.2
  rw [← q1] at hN hS
  have hG := h.ok.inv.gh
  have htm : q.s.tm q.s.snap ≤ q.s.term := hN.logT _
  refine ⟨by show q.s.term ≤ _; have := hS.term; omega, ?_, ⟨⟨fun h0 => Classical.byContradiction fun hn => ?_, fun h0 => ?_⟩, htm⟩, ⟨by show q.s.log.length ≤ _; omega, hk.1, Nat.le_trans hk.2 hl.2.2⟩, ?_⟩
  · by_cases hv : q.s.vote = 0
    · exact .inl hv
    · right
      obtain ⟨_, b, _, d, _⟩ := hG.votes q.s.term (i + 1) q.s.vote hv hN.voteN
      have := d.2 0
      exact ⟨by show 1 ≤ q.s.term; omega, b⟩
  · have := hN.logA.pos (k := q.s.snap) (Nat.pos_of_ne_zero hn) (by omega)
    have h0' : Rf.tmL q.s.log q.s.snap = 0 := h0
    omega
  · show Rf.tmL q.s.log q.s.snap = 0
    rw [show q.s.snap = 0 from h0]; rfl
  · show goesP (q.s.log.drop q.s.snap) (q.s.tm q.s.snap) q.s.term
    exact goesP_sl (Rs.goesP_of hG.llT hN.logA hN.logT _ q.s.snap _ (by rw [List.length_drop]; omega) (by rw [List.take_length]) (.inl (Nat.le_refl _)))
end
end Go.SL
namespace Go.SL
open Go.Proofs Go.Proofs.YtocogcgnahbpkaaGreat
open Rs (Nd Gh)
set_option maxRecDepth 10000
attribute [local irreducible] W RS RG RT RD Fn FnQ OpS QOp Own Sat Rd Gr Mp Rg Lg Ms Es Nod Rp NodI RLg RMs REs RN RLd RNF EsD MsD NBk BkP BkRd BothI MapsP KnD NetP
section
variable {bo : Bool} {c : Rf.Cfg} {A K i j bw : Nat} {g g' : Gh} {nd : Nat → Nd} {w : WS} {q : ST} {e : AV} {ag : Bool} {dr : Int} {X D : HP} {lbs : List LB} {net' : List Rf.Msg}
theorem Ph.sub (h : Ph bo c A g nd w) (hn : ∀ m, m ∈ net' → m ∈ w.net) (hl : net'.length ≤ w.net.length) (NA : Option Addr) (nc : Nat) : Ph bo c A g nd ⟨{ w.a with NA := NA, nn := net'.length, nc := nc }, w.S, net', w.G⟩ :=
  ⟨h.ok.sub hn, h.G, h.len, h.seat, rfl, Nat.le_trans hl h.nl, h.calm, h.hi, h.dat, fun m hm => h.fm m (hn m hm)⟩
theorem Phi.mono {K' : Nat} (h : Phi bo c K w) (hk : K ≤ K') : Phi bo c K' w := let ⟨A, g, nd, a, b⟩ := h; ⟨A, g, nd, Nat.le_trans a hk, b⟩
theorem Goes.mono {Φ Φ' : WS → Prop} {v0 : Value} {f : Nat} {ar : Array Value} {M : List HP} (h : Fn Tryz.prog f ar M (Goes c bw Φ v0)) (hΦ : ∀ w, Φ w → Φ' w) : Fn Tryz.prog f ar M (Goes c bw Φ' v0) :=
  h.mono fun v L ⟨w, a, b, d⟩ => ⟨_, .refl _, w, hΦ w a, b, d⟩
theorem Goes.more {Φ : WS → Prop} {v0 : Value} {f : Nat} {ar : Array Value} (h : Fn Tryz.prog f ar (WP c bw w) (Goes c bw Φ v0)) : Fn Tryz.prog f ar (WP c bw w ++ [X, D]) (fun v L => ∃ w', Φ w' ∧ v = v0 ∧ L = WP c bw w' ++ [X, D]) :=
  (h.frame (L := WP c bw w ++ [X, D]) (.cons .hd (.cons .hd (.cons .hd (.cons .hd (.cons .hd (.cons .hd .nil))))))).mono fun v L ⟨M, ⟨w', a, b, d⟩, x⟩ => ⟨_, .refl _, w', a, b, by rw [x, d]; rfl⟩
theorem Keeps.mono {Φ Φ' : WS → Prop} {s' : Nd} {r : Rdy} {G : MG} (h : Keeps Φ w i q net' G s' r) (hΦ : ∀ w, Φ w → Φ' w) : Keeps Φ' w i q net' G s' r := fun hi NA nc lA lc a b d => hΦ _ (h hi NA nc lA lc a b d)
theorem Can.mono {Φ Φ' : WS → Prop} {e : EV} {data : List (List Int)} (h : Can c Φ w i q e data) (hΦ : ∀ w, Φ w → Φ' w) : Can c Φ' w i q e data :=
  let ⟨s', r, G, a, b, d, k⟩ := h
  ⟨s', r, G, a, b, d, k.mono hΦ⟩
theorem seat_at (h : Ph bo c A g nd w) (hi : i < c.n) : ∃ q, w.S[i]? = some q := ⟨_, List.getElem?_eq_getElem (by rw [h.len]; exact hi)⟩
theorem node_lt {k : Int} (hn : 1 ≤ c.n) : wholeN k 0 (c.n - 1) < c.n := by have := (wholeN_in k (lo := 0) (hi := c.n - 1) (Nat.zero_le _)).2; omega
theorem arrive_p (hc : Rs.CfgOK c) (h : Phi bo c K w) (hK : K ≤ 3000) (hj : j < w.net.length) : Fn Tryz.prog 25 [pt bw, nv j, iv dr, .bool ag].toArray (WP c bw w) (Goes c bw (Phi bo c K) (.bool true)) := by
  obtain ⟨A, g, nd, hA, h⟩ := h
  obtain ⟨m, hm⟩ : ∃ m, w.net[j]? = some m := ⟨_, List.getElem?_eq_getElem hj⟩
  have hmm := List.mem_of_getElem? hm
  have hM := (h.ok.inv.msgs m hmm).1
  have hds := hM.rng.2
  obtain ⟨q, hq⟩ := seat_at h (i := m.dst - 1) (by omega)
  have hAr := ari_of (c := c) hm hds hc.n.2 h.len hq (by have := hM.form.len; omega) (h.fm m hmm).dat h.nn (by have := h.nl; omega)
  by_cases hw : Wrg c q.s m
  · exact arrive_we hAr hq (evgo_wrong hc h (by omega) hm hq hw) (by decide) fun NA nc => ⟨A, g, nd, hA, h.sub (fun m hm => netOf_sub hm) (by unfold netOf; split; exact Nat.le_refl _; exact List.length_eraseIdx_le _ _) NA nc⟩
  · exact Goes.mono (arrive_w hAr hq (canM hc h (by omega) hm hq hw)) fun w hw => hw.mono hA
theorem crash_p (hc : Rs.CfgOK c) (h : Ph true c A g nd w) (hA : A ≤ 3000) (hq : w.S[i]? = some q) (k : Int) : Fn Tryz.prog 19 [pt bw, pt q.bs, iv k, iv dr].toArray (WP c bw w) (Goes c bw (Phi true c A) (.bool true)) := by
  obtain ⟨q1, q2, q3, q4, q5, q6⟩ := h.seat i q hq
  have hin := h.in hq
  have hl := h.log hq
  have hS := h.siz hc hA hq
  have hD : DE q.s.log := by rw [q1]; exact h.dat _
  have hcm : q.s.snap ≤ cmOf k q.s q.x.cm ∧ cmOf k q.s q.x.cm ≤ q.s.commit := by
    unfold cmOf; split
    · have := wholeN_in k (lo := q.s.snap) (hi := q.x.cm) (by omega); omega
    · omega
  obtain ⟨g', h', hE⟩ := ok_begun (dr := dr) hc h.ok hin (by rw [← q1]; exact hcm.1) (by rw [← q1]; exact hcm.2)
  rw [← q1] at h' hE
  have hid : q.s.id = i + 1 := by rw [q1]; exact (h.ok.inv.nds _).id
  have hn := hc.n; have hle := hc.least; have hmo := hc.most; have hbe := hc.beat; have hba := hc.batch
  refine crash_w hq q2 (by rw [q3, hid]) (by omega) ⟨hn, ⟨by omega, by omega, by omega, by omega⟩, hba⟩ (hS.sn.mk hS.sn.id hS.sn.term ?_ hD ⟨Nat.zero_le _, Nat.zero_le _⟩) (stOk_of h hA hq hcm) hD fun p => ⟨A, g', _, Nat.le_refl _, h', h.G.trans (mg_le hE), by show (w.S.set i _).length = _; rw [List.length_set]; exact h.len, fun j p hp => ?_, h.nn, h.nl, h.calm, h.hi, setN_data h.dat hD, h.fm⟩
  · have := hS.sn.fin
    exact ⟨hcm.1, Nat.le_trans hcm.2 hl.2.2, this.2.2.1, this.2.2.2⟩
  · replace hp : (w.S.set i _)[j]? = some p := hp
    by_cases hk : j = i
    · subst hk
      rw [List.getElem?_set_self (List.getElem?_eq_some_iff.1 hq).1] at hp
      injection hp with hp
      subst hp
      exact ⟨(Rs.setN_at ..).symm, rfl, hid, rfl, rfl, q6⟩
    · rw [List.getElem?_set_ne (by omega)] at hp
      rw [Rs.setN_ne _ _ (by omega)]
      exact h.seat j p hp
structure LbOk (X D : HP) (e : AV) (lbs : List LB) : Prop where
  X : Reads X e.dA (lbs.map vB)
  D : DReadB D lbs
  dn : e.dn = lbs.length
  h24 : lbs.length * 24 ≤ 140737488351232
  ld : ∀ x ∈ lbs, x.data.length ≤ 140737488351232
theorem propose_p (hc : Rs.CfgOK c) (h : Ph bo c A g nd w) (hA : A + 1 ≤ 3000) (hk : e.kind = 4) (hL : LbOk X D e lbs) : Fn Tryz.prog 10 [pt bw, .agg (encA e).toArray].toArray (WP c bw w ++ [X, D]) (fun v L => ∃ w', Phi bo c (A + 1) w' ∧ v = .bool true ∧ L = WP c bw w' ++ [X, D]) := by
  obtain ⟨q, hq⟩ := seat_at h (i := wholeN e.node 0 (c.n - 1)) (node_lt hc.n.1)
  obtain ⟨q1, q2, q3, q4, q5, q6⟩ := h.seat _ q hq
  have hl := h.log hq
  obtain ⟨h1, h2, h3, h4, h5⟩ := hL
  have hdl : (lbs.map (·.data)).length = lbs.length := List.length_map ..
  by_cases hr : Rs.refuse (lbs.map (·.data)) q.s = 0
  · have hr2 : (1 ≤ lbs.length ∧ lbs.length ≤ 16) ∧ q.s.role = 4 ∧ q.s.heir = 0 := by
      unfold Rs.refuse at hr
      rw [hdl] at hr
      split at hr
      · cases hr
      · split at hr
        · cases hr
        · split at hr
          · cases hr
          · refine ⟨?_, ?_, ?_⟩ <;> (apply Classical.byContradiction; intro; contradiction)
    obtain ⟨s', r, G, k1, k2, k3, k4, k5⟩ := can_propose (data := lbs.map (·.data)) hc h hA hq hr2.2.1 hr2.2.2 (by rw [hdl]; exact hr2.1) fun b hb => by
      obtain ⟨x, hx, rfl⟩ := List.mem_map.1 hb
      exact h5 x hx
    exact act_proposed hc.n h.len hk hq h1 h2 h3 h4 h5 k1 k2 k3 k4 ⟨k5, hr2.1⟩
  · refine act_refused hc.n h.len hk hq h1 h2 h3 h4 h5 (ev_refused (e := evP) (h.siz hc (by omega) hq) rfl (by rw [hdl]; omega) hr) hr ?_ ⟨A, g, nd, by omega, h⟩
    rw [q5]
    unfold Rs.refuse at hr ⊢
    rw [hdl] at hr ⊢
    have hfin : q.s.fin = q.s.log.length := rfl
    by_cases a1 : 1 ≤ lbs.length ∧ lbs.length ≤ 16
    · rw [if_neg (by simpa using a1)] at hr ⊢
      by_cases a2 : q.s.role = 4
      · rw [if_neg (by simpa using a2)] at hr ⊢
        by_cases a3 : q.s.heir = 0
        · rw [if_neg (by simpa using a3), if_neg (by omega), if_neg (by omega)] at hr
          exact absurd rfl hr
        · rw [if_pos a3]; omega
      · exact .inl a2
    · omega
theorem act_p (hc : Rs.CfgOK c) (h : Phi true c K w) (hK : K < 400) (hL : ∃ lbs, LbOk X D e lbs) : Fn Tryz.prog 10 [pt bw, .agg (encA e).toArray].toArray (WP c bw w ++ [X, D]) (fun v L => ∃ w', Phi true c (K + 1) w' ∧ v = .bool true ∧ L = WP c bw w' ++ [X, D]) := by
  have hK0 := h
  obtain ⟨A, g, nd, hA, h⟩ := h
  have hA2 : A ≤ 3000 := by omega
  have hn := hc.n
  obtain ⟨q, hq⟩ := seat_at h (i := wholeN e.node 0 (c.n - 1)) (node_lt hn.1)
  obtain ⟨qb, hqb⟩ := seat_at h (i := wholeN e.n 0 (c.n - 1)) (node_lt hn.1)
  obtain ⟨q1, q2, q3, q4, q5, q6⟩ := h.seat _ q hq
  have hl := h.log hq
  have up1 : ∀ w, Phi true c (A + 1) w → Phi true c (K + 1) w := fun w hw => hw.mono (by omega)
  have up0 : ∀ w, Phi true c A w → Phi true c (K + 1) w := fun w hw => hw.mono (by omega)
  have upK : ∀ w, Phi true c K w → Phi true c (K + 1) w := fun w hw => hw.mono (by omega)
  have stay := upK w hK0
  by_cases k4 : e.kind = 4
  · obtain ⟨lbs, hL⟩ := hL
    refine (propose_p hc h (by omega) k4 hL).mono ?_
    rintro v L ⟨w', a, b, d⟩
    exact ⟨_, .refl _, w', up1 _ a, b, d⟩
  refine Goes.more ?_
  by_cases k1 : e.kind = 1
  · exact act_tick hn h.len k1 hq ((can_tick hc h (by omega) hq _).mono up1)
  by_cases k5 : e.kind = 5
  · exact act_compact hn h.len k5 hq (by omega) (fun hlt => (can_compact hc h hA2 hq (by
      have := wholeN_in e.n (lo := q.s.snap + 1) (hi := q.x.cm) (by omega); omega)).mono up0) stay
  by_cases k6 : e.kind = 6
  · exact act_handOver hn h.len k6 hq hqb ((can_hand hc h (by omega) hq _).imp (fun x => x.mono up1) fun x => x) stay
  by_cases k7 : e.kind = 7
  · exact act_crash hn h.len k7 hq (Goes.mono (crash_p hc h hA2 hq _) up0)
  by_cases k8 : e.kind = 8
  · exact act_install hn h.len k8 hq hqb (by omega) (fun a b d => (can_install hc h hA2 hq hqb (by omega) b (by rw [← q5]; exact d)).mono up0) stay
  by_cases k10 : e.kind = 10
  · exact act_far hn h.len k10 hq hqb ((can_far hc h hA2 hq _).imp (fun x => x.mono up0) fun x => x) stay
  have hnn := h.nn
  have hnl := h.nl
  by_cases k9 : e.kind = 9
  · refine Goes.mono (act_many (Ψ := fun _ w => Phi true c K w) hn h.len k9 hq (by omega) (fun _ w' dr hw' hpos => arrive_p hc hw' (by omega) ?_) hK0) fun w' ⟨_, _, hw'⟩ => upK w' hw'
    obtain ⟨_, _, _, _, hw'⟩ := hw'
    rw [← hw'.nn]; exact hpos
  by_cases hnet : w.net = []
  · by_cases k23 : e.kind = 2 ∨ e.kind = 3
    · exact act_drop hn h.len k23 hq hnn hnet stay
    · exact act_none hn h.len (by omega) hq stay
  have hpos : 0 < w.net.length := List.length_pos_iff.2 hnet
  have hw := wholeN_in e.n (lo := 0) (hi := w.a.nn - 1) (Nat.zero_le _)
  by_cases k2 : e.kind = 2
  · exact act_arrive hn h.len k2 hq (by omega) (Goes.mono (arrive_p hc hK0 (by omega) (by omega)) upK)
  by_cases k3 : e.kind = 3
  · exact act_lose hn h.len k3 hq (by omega) hnn fun NA nc => ⟨A, g, nd, by omega, h.sub (fun m hm => List.mem_of_mem_eraseIdx hm) (List.length_eraseIdx_le _ _) NA nc⟩
  · exact act_none hn h.len (by omega) hq stay
end
end Go.SL
