/-
  A part of the proof of what E53 says at its head.
-/
import Derived.Test.YtocogcgnahbpkaaGreatE11
namespace Go.Proofs.YtocogcgnahbpkaaGreat.Rs
open Rf (Ent Msg Cfg tmL Maj upTo nodup_le)
structure Gh where
  lid : Nat → Nat
  llog : Nat → List Ent
  voted : Nat → Nat → Nat
  ack : Nat → Nat → Nat
  clog : Nat → Nat → List Ent
  vlog : Nat → Nat → List Ent
  cert : Nat → Nat → List Nat
  pn : Nat
def Agree (g : Gh) (l : List Ent) : Prop := ∀ k, 1 ≤ k → k ≤ l.length → 1 ≤ tmL l k ∧ g.lid (tmL l k) ≠ 0 ∧ k ≤ (g.llog (tmL l k)).length ∧ l.take k = (g.llog (tmL l k)).take k
def Has (L l : List Ent) (i : Nat) : Prop := i ≤ L.length ∧ L.take i = l.take i
structure Live (g : Gh) (t i : Nat) : Prop where
  t1 : 1 ≤ t
  i1 : 1 ≤ i
  at_ : tmL (g.llog t) i = t
  no : g.cert t i = []
structure Comm (n : Nat) (g : Gh) (t i : Nat) : Prop where
  t1 : 1 ≤ t
  i1 : 1 ≤ i
  at_ : tmL (g.llog t) i = t
  acks : ∃ Q, Maj n Q ∧ ∀ q, q ∈ Q → i ≤ g.ack t q
def CommT (n : Nat) (g : Gh) (P : Nat → Prop) (l : List Ent) (c : Nat) : Prop := c ≤ l.length ∧ (c = 0 ∨ ∃ t0 c', c ≤ c' ∧ Comm n g t0 c' ∧ l.take c = (g.llog t0).take c ∧ P t0)
def CommOK (n : Nat) (g : Gh) : List Ent → Nat → Prop := CommT n g fun _ => True
def Late (n : Nat) (tm : Nat → Nat) (g : Gh) (u t0 : Nat) : Prop := ∃ R, Maj n R ∧ ∀ r, r ∈ R → t0 ≤ tm r ∧ ∀ t c, u < t → t < t0 → c ≠ 0 → g.voted t r = c → t < tm c
def Claim (g : Gh) (T p k : Nat) : Prop := ∀ i, 1 ≤ i → i ≤ k → (i ≤ (g.llog T).length → tmL (g.llog T) i = T) → i ≤ g.ack T p ∨ (g.cert T i ≠ [] ∧ p ∉ g.cert T i)
structure GhOK (n : Nat) (tm : Nat → Nat) (g : Gh) : Prop where
  llT : ∀ t k, tmL (g.llog t) k ≤ t
  llA : ∀ t, Agree g (g.llog t)
  llQ : ∀ t, g.lid t ≠ 0 → 1 ≤ t ∧ g.voted t (g.lid t) = g.lid t ∧ ∃ Q, Maj n Q ∧ ∀ q, q ∈ Q → g.voted t q = g.lid t
  llN : ∀ t, g.lid t = 0 → g.llog t = [] ∧ ∀ q, g.ack t q = 0
  vF : ∀ t q, tm q < t → g.voted t q = 0 ∧ g.ack t q = 0
  votes : ∀ t q c, c ≠ 0 → g.voted t q = c → g.voted t c = c ∧ (1 ≤ c ∧ c ≤ n) ∧ upTo (g.clog t c) (g.vlog t q) ∧ (Agree g (g.clog t c) ∧ ∀ k, tmL (g.clog t c) k < t) ∧ Agree g (g.vlog t q)
  comp : ∀ t t' i, t < t' → g.lid t' ≠ 0 → Live g t i → Has (g.llog t') (g.llog t) i
  compF : ∀ t t' i, t < t' → g.lid t' ≠ 0 → (g.llog t).length < i → g.cert t i ≠ []
  vcomp : ∀ t t' q i, t < t' → g.voted t' q ≠ 0 → i ≤ g.ack t q → Live g t i → Has (g.vlog t' q) (g.llog t) i
  ackL : ∀ t q, g.ack t q ≤ (g.llog t).length
  cert : ∀ t i, g.cert t i ≠ [] → Maj n (g.cert t i) ∧ ∀ r, r ∈ g.cert t i → t < tm r ∧ g.ack t r < i
  len : ∀ t, (g.llog t).length ≤ t + 16 * g.pn
structure NdOK (n : Nat) (tm : Nat → Nat) (g : Gh) (i : Nat) (s : Nd) : Prop where
  id : s.id = i
  rng : s.role ≠ 1 → 1 ≤ i ∧ i ≤ n
  voteN : g.voted s.term i = s.vote
  ncomp : ∀ t k, k ≤ g.ack t i → Live g t k → Has s.log (g.llog t) k
  logA : Agree g s.log
  logT : ∀ k, tmL s.log k ≤ s.term
  snap : s.snap ≤ s.commit
  comm : CommOK n g s.log s.commit
  tell : s.snap < s.commit → CommT n g (fun t0 => t0 ≤ s.term ∨ Late n tm g s.term t0) s.log s.commit
  lead : s.role = 4 → g.lid s.term = i ∧ g.llog s.term = s.log ∧ g.ack s.term i = s.log.length ∧ ∀ p, p ≠ i → Claim g s.term p (s.mt p) ∧ s.mt p < s.nx p ∧ s.nx p ≤ s.log.length + 1
  cand : s.role = 3 → s.vote = i ∧ g.lid s.term ≠ i ∧ (s.gr.Nodup ∧ ∀ p, p ∈ s.gr → (1 ≤ p ∧ p ≤ n) ∧ g.voted s.term p = i) ∧ ∀ t k, t < s.term → Live g t k → Has (g.clog s.term i) (g.llog t) k → Has s.log (g.llog t) k
structure Form (m : Msg) : Prop where
  kind : 1 ≤ m.kind ∧ m.kind ≤ 8
  ne : m.src ≠ m.dst
  term : 1 ≤ m.term
  lt : m.lt ≤ m.term
  zero : m.kind = 1 ∨ m.kind = 3 ∨ m.kind = 5 ∨ m.kind = 7 → (m.lt = 0 ↔ m.idx = 0)
  es : m.kind ≠ 5 → m.es = []
  len : m.es.length ≤ 16
  hint : m.kind = 6 → m.rej = true → m.hint < m.idx ∨ (m.hint = 0 ∧ m.idx = 0)
  seven : m.kind = 7 → 1 ≤ m.idx
structure MsgOK (n : Nat) (tm : Nat → Nat) (g : Gh) (m : Msg) : Prop where
  form : Form m
  rng : (1 ≤ m.src ∧ m.src ≤ n) ∧ (1 ≤ m.dst ∧ m.dst ≤ n)
  vote : m.kind = 3 → g.voted m.term m.src = m.src ∧ (g.clog m.term m.src).length = m.idx ∧ tmL (g.clog m.term m.src) m.idx = m.lt
  grant : m.kind = 4 → m.rej = false → g.voted m.term m.src = m.dst
  app : m.kind = 5 ∨ m.kind = 7 → g.lid m.term = m.src ∧ m.idx + m.es.length ≤ (g.llog m.term).length ∧ m.lt = tmL (g.llog m.term) m.idx ∧ m.es = ((g.llog m.term).drop m.idx).take m.es.length ∧ CommT n g (fun t0 => t0 ≤ m.term ∨ m.term < tm m.dst ∨ Late n tm g m.term t0) (g.llog m.term) m.commit
  snap : m.kind = 7 → m.idx ≤ m.commit
  took : m.kind = 6 → m.rej = false → Claim g m.term m.src m.idx
def termOf (m : Msg) (T : Nat) : Prop := (m.kind = 1 → m.term ≤ T + 1) ∧ (m.kind = 2 → m.rej = true → m.term ≤ T) ∧ (3 ≤ m.kind → m.term ≤ T)
def setN (nd : Nat → Nd) (i : Nat) (s : Nd) : Nat → Nd := fun j => if j = i then s else nd j
structure Inv (n : Nat) (nd : Nat → Nd) (net : List Msg) (g : Gh) : Prop where
  gh : GhOK n (fun q => (nd q).term) g
  nds : ∀ i, NdOK n (fun q => (nd q).term) g i (nd i)
  msgs : ∀ m, m ∈ net → MsgOK n (fun q => (nd q).term) g m ∧ termOf m (nd m.src).term
structure Ext (nd nd' : Nat → Nd) (g g' : Gh) : Prop where
  tm : ∀ q, (nd q).term ≤ (nd' q).term
  ack : ∀ t q, g.ack t q ≤ g'.ack t q
  llog : ∀ t k, k ≤ (g.llog t).length → k ≤ (g'.llog t).length ∧ (g'.llog t).take k = (g.llog t).take k
  lid : ∀ t, g.lid t ≠ 0 → g'.lid t = g.lid t
  voted : ∀ t q, g.voted t q ≠ 0 → g'.voted t q = g.voted t q
  votedN : ∀ t q, t < (nd q).term → g'.voted t q = g.voted t q
  clog : ∀ t c, g.voted t c = c → c ≠ 0 → g'.clog t c = g.clog t c
  vlog : ∀ t q, g.voted t q ≠ 0 → g'.vlog t q = g.vlog t q
  cert : ∀ t i, g.cert t i ≠ [] → g'.cert t i = g.cert t i
  pn : g'.pn = g.pn
theorem setN_at (nd : Nat → Nd) (i : Nat) (s : Nd) : setN nd i s i = s := by simp [setN]
theorem setN_ne (nd : Nat → Nd) {i j : Nat} (s : Nd) (h : j ≠ i) : setN nd i s j = nd j := by simp [setN, h]
section
variable {g g' : Gh} {l l' L : List Ent} {n i j k t : Nat} {nd nd' nd'' : Nat → Nd} {m : Msg} {mu mu' : Nat → Nat}
theorem Agree.take (h : Agree g l) (j : Nat) : Agree g (l.take j) := fun k h1 hk => by
  rw [List.length_take] at hk
  have hkj : k ≤ j := by omega
  rw [Rf.tmL_take l hkj, List.take_take, Nat.min_eq_left hkj]
  exact h k h1 (by omega)
theorem Agree.same (h : Agree g l) (h' : Agree g l') (h1 : 1 ≤ k) (hk : k ≤ l.length) (hk' : k ≤ l'.length) (ht : tmL l k = tmL l' k) : l.take k = l'.take k := by
  rw [(h k h1 hk).2.2.2, ht, (h' k h1 hk').2.2.2]
theorem Agree.mono (hT : ∀ t k, tmL (g.llog t) k ≤ t) (h : Agree g l) (hjk : j ≤ k) (hk : k ≤ l.length) : tmL l j ≤ tmL l k := by
  by_cases h1 : 1 ≤ k
  · rw [Rf.tmL_congr (h k h1 hk).2.2.2 hjk]; exact hT _ _
  · obtain rfl : j = k := by omega
    exact Nat.le_refl _
theorem Agree.pos (h : Agree g l) (h1 : 1 ≤ k) (hk : k ≤ l.length) : 1 ≤ tmL l k := (h k h1 hk).1
theorem Agree.nil : Agree g [] := fun k h1 hk => by simp at hk; omega
theorem Has.refl (h : k ≤ l.length) : Has l l k := ⟨h, rfl⟩
theorem Has.trans (a : Has l' l k) (b : Has L l' k) : Has L l k := ⟨b.1, b.2.trans a.2⟩
theorem Has.mono (a : Has L l k) (h : j ≤ k) : Has L l j := ⟨Nat.le_trans h a.1, Rf.take_of_take a.2 h⟩
theorem Has.tm (a : Has L l k) (h : j ≤ k) : tmL L j = tmL l j := Rf.tmL_congr a.2 h
theorem at_len (t1 : 1 ≤ t) (h : tmL (g.llog t) i = t) : i ≤ (g.llog t).length := Classical.byContradiction fun hn => by
  rw [Rf.tmL_past _ (by omega)] at h; omega
theorem Live.to (h : Live g' t i) (a : g.llog t = g'.llog t) (b : g.cert t i = g'.cert t i) : Live g t i := ⟨h.t1, h.i1, by rw [a]; exact h.at_, by rw [b]; exact h.no⟩
theorem Live.len (h : Live g t i) : i ≤ (g.llog t).length := at_len h.t1 h.at_
theorem Comm.len (h : Comm n g t i) : i ≤ (g.llog t).length := at_len h.t1 h.at_
theorem Comm.live (hG : GhOK n mu g) (h : Comm n g t i) : Live g t i := ⟨h.t1, h.i1, h.at_, Classical.byContradiction fun hc => by
  obtain ⟨hm, hr⟩ := hG.cert t i hc
  obtain ⟨Q, hQ, hq⟩ := h.acks
  obtain ⟨x, x1, x2⟩ := hm.meet hQ
  have := (hr x x1).2
  have := hq x x2
  omega⟩
theorem Comm.lid (hG : GhOK n mu g) (h : Comm n g t i) : g.lid t ≠ 0 := fun h0 => by
  have := h.len
  rw [(hG.llN t h0).1] at this
  have := h.i1
  simp at *
  omega
theorem elect (hT : ∀ t k, tmL (g.llog t) k ≤ t) {t' : Nat} {C L : List Ent} (hcomp : ∀ v, t < v → v < t' → g.lid v ≠ 0 → Has (g.llog v) (g.llog t) i)
    (hC : Agree g C) (hCt : ∀ k, tmL C k < t') (hL : Agree g L) (hup : upTo C L) (h1 : 1 ≤ i) (ht1 : 1 ≤ t) (hti : tmL (g.llog t) i = t) (hH : Has L (g.llog t) i) : Has C (g.llog t) i := by
  have hLi : tmL L i = t := by rw [hH.tm (Nat.le_refl _)]; exact hti
  have hlast : t ≤ tmL L L.length := by rw [← hLi]; exact hL.mono hT hH.1 (Nat.le_refl _)
  have hCn : 1 ≤ C.length := by
    rcases Nat.eq_zero_or_pos C.length with h0 | h0
    · rcases hup with h | ⟨h, _⟩
      · rw [h0, Rf.tmL_zero] at h; omega
      · rw [h0, Rf.tmL_zero] at h; omega
    · exact h0
  obtain ⟨_, hv0, hvl, hvt⟩ := hC C.length hCn (Nat.le_refl _)
  rw [List.take_length] at hvt
  rcases hup with hlt | ⟨heq, hlen⟩
  · obtain ⟨c1, c2⟩ := hcomp _ (by omega) (hCt _) hv0
    have hCi : i ≤ C.length := by
      refine Classical.byContradiction fun hn => ?_
      have e1 : tmL C C.length = tmL (g.llog (tmL C C.length)) C.length := Rf.tmL_congr (j := C.length) (by rw [List.take_length]; exact hvt) (Nat.le_refl _)
      have h2 : tmL C C.length = tmL (g.llog t) C.length := by rw [e1]; exact Rf.tmL_congr c2 (by omega)
      have := hT t C.length
      omega
    exact ⟨hCi, by rw [← c2]; exact Rf.take_of_take (j := C.length) (by rw [List.take_length]; exact hvt) hCi⟩
  · have hL1 : 1 ≤ L.length := by have := hH.1; omega
    obtain ⟨_, _, _, hLt⟩ := hL L.length hL1 (Nat.le_refl _)
    rw [List.take_length] at hLt
    have hCi : i ≤ C.length := by have := hH.1; omega
    refine ⟨hCi, ?_⟩
    rw [← hH.2]
    have e1 : C.take i = (g.llog (tmL C C.length)).take i := Rf.take_of_take (j := C.length) (by rw [List.take_length]; exact hvt) hCi
    have e2 : L.take i = (g.llog (tmL L L.length)).take i := Rf.take_of_take (j := L.length) (by rw [List.take_length]; exact hLt) hH.1
    rw [e1, e2, heq]
theorem Ext.tmL (e : Ext nd nd' g g') (hk : k ≤ (g.llog t).length) : tmL (g'.llog t) k = tmL (g.llog t) k := Rf.tmL_congr (e.llog t k hk).2 (Nat.le_refl _)
theorem Ext.live (e : Ext nd nd' g g') (h : Live g' t k) (hk : k ≤ (g.llog t).length) : Live g t k :=
  ⟨h.t1, h.i1, by rw [← e.tmL hk]; exact h.at_, Classical.byContradiction fun hc => hc (by rw [← e.cert t k hc]; exact h.no)⟩
theorem Ext.has (e : Ext nd nd' g g') (h : Has L (g.llog t) k) (hk : k ≤ (g.llog t).length) : Has L (g'.llog t) k := ⟨h.1, by rw [h.2, (e.llog t k hk).2]⟩
theorem Ext.agree (e : Ext nd nd' g g') (h : Agree g l) : Agree g' l := fun k h1 hk => by
  obtain ⟨a, b, c, d⟩ := h k h1 hk
  have := e.llog _ _ c
  exact ⟨a, by rw [e.lid _ b]; exact b, this.1, by rw [this.2]; exact d⟩
theorem Ext.comm (e : Ext nd nd' g g') (h : Comm n g t i) : Comm n g' t i := by
  obtain ⟨Q, hQ, hq⟩ := h.acks
  exact ⟨h.t1, h.i1, by rw [e.tmL h.len]; exact h.at_, Q, hQ, fun q hm => Nat.le_trans (hq q hm) (e.ack t q)⟩
theorem Ext.commT (e : Ext nd nd' g g') {c : Nat} {P P' : Nat → Prop} (h : CommT n g P l c) (hl : Has l' l c) (hP : ∀ t, P t → P' t) : CommT n g' P' l' c := by
  refine ⟨hl.1, ?_⟩
  rcases h.2 with h0 | ⟨t0, c', h1, h2, h3, h4⟩
  · exact .inl h0
  · have := h2.len
    exact .inr ⟨t0, c', h1, e.comm h2, by rw [hl.2, h3, (e.llog t0 c (by omega)).2], hP t0 h4⟩
theorem Ext.late (e : Ext nd nd' g g') {u t0 : Nat} (h : Late n (fun q => (nd q).term) g u t0) : Late n (fun q => (nd' q).term) g' u t0 := by
  obtain ⟨R, hR, hr⟩ := h
  refine ⟨R, hR, fun r hm => ⟨Nat.le_trans (hr r hm).1 (e.tm r), fun t c h1 h2 h3 h4 => ?_⟩⟩
  rw [e.votedN t r (Nat.lt_of_lt_of_le h2 (hr r hm).1)] at h4
  exact Nat.lt_of_lt_of_le ((hr r hm).2 t c h1 h2 h3 h4) (e.tm c)
theorem Late.mono {u u' t0 : Nat} (h : Late n mu g u t0) (hu : u ≤ u') : Late n mu g u' t0 := by
  obtain ⟨R, hR, hr⟩ := h
  exact ⟨R, hR, fun r hm => ⟨(hr r hm).1, fun t c h1 => (hr r hm).2 t c (by omega)⟩⟩
theorem CommT.mono {c : Nat} {P P' : Nat → Prop} (h : CommT n g P l c) (hP : ∀ t, P t → P' t) : CommT n g P' l c := ⟨h.1, h.2.imp (fun x => x) fun ⟨t0, c', h1, h2, h3, h4⟩ => ⟨t0, c', h1, h2, h3, hP t0 h4⟩⟩
theorem Ext.claim (e : Ext nd nd' g g') {p : Nat} (h : Claim g t p k) : Claim g' t p k := fun i h1 hk hx => by
  rcases h i h1 hk (fun hl => by rw [← e.tmL hl]; exact hx (e.llog t i hl).1) with a | ⟨a, b⟩
  · exact .inl (Nat.le_trans a (e.ack t p))
  · rw [e.cert t i a]; exact .inr ⟨a, b⟩
theorem Ext.msg (e : Ext nd nd' g g') (h : MsgOK n (fun q => (nd q).term) g m) : MsgOK n (fun q => (nd' q).term) g' m := by
  have hs := h.rng
  refine ⟨h.form, h.rng, fun hk => ?_, fun hk hr => ?_, fun hk => ?_, h.snap, fun hk hr => e.claim (h.took hk hr)⟩
  · obtain ⟨a, b, c⟩ := h.vote hk
    rw [e.clog _ _ a (by omega), e.voted _ _ (by omega)]
    exact ⟨a, b, c⟩
  · rw [e.voted _ _ (by rw [h.grant hk hr]; omega)]; exact h.grant hk hr
  · obtain ⟨a, b, c, d, f⟩ := h.app hk
    have ha := e.llog m.term _ b
    refine ⟨by rw [e.lid _ (by omega)]; exact a, ha.1, by rw [e.tmL (by omega)]; exact c, ?_, e.commT f ⟨(e.llog _ _ f.1).1, (e.llog _ _ f.1).2⟩ fun t0 h => h.imp (fun x => x) fun h => h.imp (fun h => Nat.lt_of_lt_of_le h (e.tm _)) e.late⟩
    have key : ∀ l : List Ent, (l.drop m.idx).take m.es.length = (l.take (m.idx + m.es.length)).drop m.idx := fun l => by
      rw [List.drop_take]; congr 1; omega
    rw [key, ha.2, ← key]; exact d
theorem Ext.refl (htm : ∀ q, (nd q).term ≤ (nd' q).term) : Ext nd nd' g g :=
  ⟨htm, fun _ _ => Nat.le_refl _, fun _ _ h => ⟨h, rfl⟩, fun _ _ => rfl, fun _ _ _ => rfl, fun _ _ _ => rfl, fun _ _ _ _ => rfl, fun _ _ _ => rfl, fun _ _ _ => rfl, rfl⟩
theorem NdOK.ext {s : Nd} (hG : GhOK n mu g) (e : Ext nd nd' g g') (h : NdOK n (fun q => (nd q).term) g i s) (ha : ∀ t, g'.ack t i = g.ack t i) (hv : g'.voted s.term i = g.voted s.term i)
    (h4 : s.role = 4 → g'.llog s.term = g.llog s.term) (h3 : s.role = 3 → g'.lid s.term ≠ i ∧ g'.clog s.term i = g.clog s.term i) : NdOK n (fun q => (nd' q).term) g' i s := by
  refine ⟨h.id, h.rng, by rw [hv]; exact h.voteN, fun t k hk hl => ?_, e.agree h.logA, h.logT, h.snap, e.commT h.comm ⟨h.comm.1, rfl⟩ fun _ h => h, fun hs => e.commT (h.tell hs) ⟨h.comm.1, rfl⟩ fun _ h => h.imp (fun x => x) e.late, fun hr => ?_, fun hr => ?_⟩
  · rw [ha] at hk
    have := Nat.le_trans hk (hG.ackL t i)
    exact e.has (h.ncomp t k hk (e.live hl this)) this
  · obtain ⟨a, b, c, d⟩ := h.lead hr
    have hi := (h.rng (by omega)).1
    exact ⟨by rw [e.lid _ (by omega)]; exact a, by rw [h4 hr]; exact b, by rw [ha]; exact c, fun p hp => ⟨e.claim (d p hp).1, (d p hp).2⟩⟩
  · obtain ⟨a, b, c, d⟩ := h.cand hr
    obtain ⟨x, y⟩ := h3 hr
    have hi := (h.rng (by omega)).1
    have hvi : g.voted s.term i = i := by rw [h.voteN, a]
    refine ⟨a, x, ⟨c.1, fun p hp => ⟨(c.2 p hp).1, ?_⟩⟩, fun t k ht hl hh => ?_⟩
    · rw [e.voted _ _ (by rw [(c.2 p hp).2]; omega)]; exact (c.2 p hp).2
    · rw [y] at hh
      have hk : k ≤ (g.llog t).length := by
        have hA := ((hG.votes _ i i (by omega) hvi).2.2.2.1.1) k hl.i1 hh.1
        rw [hh.tm (Nat.le_refl _), hl.at_] at hA
        exact hA.2.2.1
      have := (e.llog t k hk).2
      exact e.has (d t k ht (e.live hl hk) ⟨hh.1, by rw [hh.2, this]⟩) hk
theorem GhOK.tm (h : GhOK n mu g) (ht : ∀ q, mu q ≤ mu' q) : GhOK n mu' g :=
  { h with vF := fun t q hq => h.vF t q (Nat.lt_of_le_of_lt (ht q) hq), cert := fun t i hc => ⟨(h.cert t i hc).1, fun r hr => ⟨Nat.lt_of_lt_of_le ((h.cert t i hc).2 r hr).1 (ht r), ((h.cert t i hc).2 r hr).2⟩⟩ }
theorem Inv.net' {net net' : List Msg} (h : Inv n nd net g) (hm : ∀ m, m ∈ net' → m ∈ net ∨ (MsgOK n (fun q => (nd q).term) g m ∧ termOf m (nd m.src).term)) : Inv n nd net' g :=
  { h with msgs := fun m x => (hm m x).elim (h.msgs m) _root_.id }
theorem Inv.turn {net : List Msg} {s : Nd} (h : Inv n nd net g) (e : Ext nd (setN nd i s) g g') (hg : GhOK n (fun q => (setN nd i s q).term) g') (hs : NdOK n (fun q => (setN nd i s q).term) g' i s) (ha : ∀ t q, q ≠ i → g'.ack t q = g.ack t q) (hv : ∀ t q, q ≠ i → g'.voted t q = g.voted t q)
    (h4 : ∀ q, q ≠ i → (nd q).role = 4 → g'.llog (nd q).term = g.llog (nd q).term) (h3 : ∀ q, q ≠ i → (nd q).role = 3 → g'.lid (nd q).term ≠ q ∧ g'.clog (nd q).term q = g.clog (nd q).term q) : Inv n (setN nd i s) net g' := by
  refine ⟨hg, fun j => ?_, fun m hm => ?_⟩
  · by_cases hj : j = i
    · subst hj; rw [setN_at]; exact hs
    · rw [setN_ne _ _ hj]
      exact (h.nds j).ext h.gh e (fun t => ha t j hj) (hv _ j hj) (h4 j hj) (h3 j hj)
  · obtain ⟨a, b, c, d⟩ := h.msgs m hm
    have := e.tm m.src
    exact ⟨e.msg a, fun x => by have := b x; omega, fun x y => by have := c x y; omega, fun x => by have := d x; omega⟩
end
end Go.Proofs.YtocogcgnahbpkaaGreat.Rs
