/-
  A part of the proof of what E53 says at its head.
-/
import Derived.Test.YtocogcgnahbpkaaGreatE45
namespace Go.Proofs.YtocogcgnahbpkaaGreat.Rs
open Rf (Ent Msg Cfg tmL Maj upTo)
def upd2 {α : Type} (f : Nat → Nat → α) (t q : Nat) (v : α) : Nat → Nat → α := fun a b => if a = t ∧ b = q then v else f a b
def upd1 {α : Type} (f : Nat → α) (t : Nat) (v : α) : Nat → α := fun a => if a = t then v else f a
theorem upd2_at {α : Type} (f : Nat → Nat → α) (t q : Nat) (v : α) : upd2 f t q v t q = v := by simp [upd2]
theorem upd2_ne {α : Type} (f : Nat → Nat → α) {t q a b : Nat} (v : α) (h : ¬ (a = t ∧ b = q)) : upd2 f t q v a b = f a b := by simp only [upd2, if_neg h]
theorem upd1_at {α : Type} (f : Nat → α) (t : Nat) (v : α) : upd1 f t v t = v := by simp [upd1]
theorem upd1_ne {α : Type} (f : Nat → α) {t a : Nat} (v : α) (h : a ≠ t) : upd1 f t v a = f a := by simp only [upd1, if_neg h]
section
variable {n i : Nat} {nd : Nat → Nd} {g : Gh} {net : List Msg} {s : Nd} {L : List Ent}
theorem setN_le (h : (nd i).term ≤ s.term) (q : Nat) : (nd q).term ≤ (setN nd i s q).term := by
  by_cases hq : q = i
  · subst hq; rw [setN_at]; exact h
  · rw [setN_ne _ _ hq]; exact Nat.le_refl _
theorem setN_eq (h : s.term = (nd i).term) (q : Nat) : (setN nd i s q).term = (nd q).term := by
  by_cases hq : q = i
  · subst hq; rw [setN_at]; exact h
  · rw [setN_ne _ _ hq]
theorem Inv.node (h : Inv n nd net g) (hid : s.id = i) (hrng : s.role ≠ 1 → 1 ≤ i ∧ i ≤ n) (hterm : (nd i).term ≤ s.term) (hv : s.vote = if (nd i).term < s.term then 0 else (nd i).vote)
    (hlog : ∀ t k, Live g t k → Has (nd i).log (g.llog t) k → Has s.log (g.llog t) k) (hA : Agree g s.log) (hT : ∀ k, tmL s.log k ≤ s.term) (hs : s.snap ≤ s.commit) (hc : CommOK n g s.log s.commit) (ht : s.snap < s.commit → CommT n g (fun t0 => t0 ≤ s.term ∨ Late n (fun q => (nd q).term) g s.term t0) s.log s.commit)
    (h4 : s.role = 4 → (nd i).role = 4 ∧ s.term = (nd i).term ∧ s.log = (nd i).log ∧ ∀ p, p ≠ i → Claim g s.term p (s.mt p) ∧ s.mt p < s.nx p ∧ s.nx p ≤ s.log.length + 1)
    (h3 : s.role = 3 → (nd i).role = 3 ∧ s.term = (nd i).term ∧ s.gr.Nodup ∧ ∀ p, p ∈ s.gr → (1 ≤ p ∧ p ≤ n) ∧ g.voted s.term p = i) : Inv n (setN nd i s) net g := by
  have hle := setN_le (i := i) hterm
  have hi := h.nds i
  have e : Ext nd (setN nd i s) g g := .refl hle
  refine h.turn e (h.gh.tm hle) ⟨hid, hrng, ?_, fun t k hk hl => hlog t k hl (hi.ncomp t k hk hl), hA, hT, hs, hc, fun hx => (ht hx).mono fun _ h => h.imp (fun x => x) e.late, fun hr => ?_, fun hr => ?_⟩ (fun _ _ _ => rfl) (fun _ _ _ => rfl) (fun _ _ _ => rfl) fun q _ hr => ⟨((h.nds q).cand hr).2.1, rfl⟩
  · rw [hv]; split
    · rename_i hlt; exact (h.gh.vF _ i hlt).1
    · rw [← hi.voteN, show s.term = (nd i).term by omega]
  · obtain ⟨a, b, c, d⟩ := h4 hr
    obtain ⟨x, y, z, _⟩ := hi.lead a
    rw [b, c]
    exact ⟨x, y, z, by rw [← b, ← c]; exact d⟩
  · obtain ⟨a, b, c⟩ := h3 hr
    obtain ⟨x, y, _, w⟩ := hi.cand a
    refine ⟨by rw [hv, b, if_neg (Nat.lt_irrefl _)]; exact x, by rw [b]; exact y, c, fun t k ht hl hh => ?_⟩
    rw [b] at ht hh
    exact hlog t k hl (w t k ht hl hh)
def Gh.cast (g : Gh) (T i c : Nat) (l : List Ent) : Gh := { g with voted := upd2 g.voted T i c, vlog := upd2 g.vlog T i l, clog := if c = i then upd2 g.clog T i l else g.clog }
theorem Inv.cast (h : Inv n nd net g) (c : Nat) (hi : 1 ≤ i ∧ i ≤ n) (hc0 : 1 ≤ c ∧ c ≤ n) (hid : s.id = i) (hterm : s.term = (nd i).term) (hlog : s.log = (nd i).log) (hcm : s.commit = (nd i).commit) (hsn : s.snap = (nd i).snap)
    (hwas : (nd i).vote = 0) (hv : s.vote = c) (hT : c = i → ∀ k, tmL (nd i).log k < (nd i).term) (hc : c ≠ i → g.voted (nd i).term c = c ∧ upTo (g.clog (nd i).term c) (nd i).log)
    (h4 : s.role = 4 → (nd i).role = 4 ∧ s.mt = (nd i).mt ∧ s.nx = (nd i).nx) (h3 : s.role = 3 → c = i ∧ s.gr = [i]) : Inv n (setN nd i s) net (g.cast (nd i).term i c (nd i).log) := by
  have hN := h.nds i
  have htm := setN_eq (i := i) hterm
  have hv0 : g.voted (nd i).term i = 0 := by rw [hN.voteN]; exact hwas
  have hclog : ∀ t d, ¬ (t = (nd i).term ∧ d = i) → (g.cast (nd i).term i c (nd i).log).clog t d = g.clog t d := fun t d hne => by
    unfold Gh.cast
    simp only
    split
    · exact upd2_ne _ _ hne
    · rfl
  have hself : c = i → (g.cast (nd i).term i c (nd i).log).clog (nd i).term i = (nd i).log := fun he => by
    unfold Gh.cast
    simp only [if_pos he]
    exact upd2_at ..
  have hvot : ∀ t q, ¬ (t = (nd i).term ∧ q = i) → (g.cast (nd i).term i c (nd i).log).voted t q = g.voted t q := fun t q hne => upd2_ne _ _ hne
  have hvot' : (g.cast (nd i).term i c (nd i).log).voted (nd i).term i = c := upd2_at ..
  have hvl : ∀ t q, ¬ (t = (nd i).term ∧ q = i) → (g.cast (nd i).term i c (nd i).log).vlog t q = g.vlog t q := fun t q hne => upd2_ne _ _ hne
  have hvl' : (g.cast (nd i).term i c (nd i).log).vlog (nd i).term i = (nd i).log := upd2_at ..
  have hkeep : ∀ t q, g.voted t q ≠ 0 → ¬ (t = (nd i).term ∧ q = i) := fun t q hne he => hne (by rw [he.1, he.2]; exact hv0)
  have e : Ext nd (setN nd i s) g (g.cast (nd i).term i c (nd i).log) := ⟨fun q => Nat.le_of_eq (htm q).symm, fun _ _ => Nat.le_refl _, fun _ _ x => ⟨x, rfl⟩, fun _ _ => rfl, fun t q x => hvot t q (hkeep t q x), fun t q x => hvot t q fun y => by rw [y.1, y.2] at x; exact Nat.lt_irrefl _ x, fun t d x hd => hclog t d (hkeep t d (by omega)), fun t q x => hvl t q (hkeep t q x), fun _ _ _ => rfl, rfl⟩
  have hG := h.gh.tm (mu' := fun q => (setN nd i s q).term) fun q => Nat.le_of_eq (htm q).symm
  refine h.turn e ⟨hG.llT, fun t => e.agree (hG.llA t), fun t ht => ?_, hG.llN, fun t q hq => ?_, fun t q d hd hq => ?_, fun t t' k a b c => hG.comp t t' k a b (c.to rfl rfl), hG.compF, fun t t' q k a b c' f => ?_, hG.ackL, hG.cert, hG.len⟩ ⟨hid, fun _ => hi, ?_, fun t k hk hl => ?_, e.agree (by rw [hlog]; exact hN.logA), by rw [hlog, hterm]; exact hN.logT, by rw [hsn, hcm]; exact hN.snap, by rw [hlog, hcm]; exact e.commT hN.comm ⟨hN.comm.1, rfl⟩ fun _ h => h, fun hx => by rw [hlog, hcm, hterm]; exact e.commT (hN.tell (by rw [← hsn, ← hcm]; exact hx)) ⟨hN.comm.1, rfl⟩ fun _ h => h.imp (fun x => x) e.late, fun hr => ?_, fun hr => ?_⟩
    (fun _ _ _ => rfl) (fun t q hq => hvot t q fun x => hq x.2) (fun _ _ _ => rfl) fun q hq hr => ⟨((h.nds q).cand hr).2.1, hclog _ _ fun x => hq x.2⟩
  · obtain ⟨a0, a, Q, hQ, hq⟩ := hG.llQ t ht
    have hq' : ∀ q, g.voted t q = g.lid t → (g.cast (nd i).term i c (nd i).log).voted t q = g.lid t := fun q x => by
      rw [hvot t q (hkeep t q (by rw [x]; exact ht))]; exact x
    exact ⟨a0, hq' _ a, Q, hQ, fun q hm => hq' q (hq q hm)⟩
  · have hq' : (setN nd i s q).term < t := hq
    rw [htm] at hq'
    rw [hvot _ _ (fun x => by rw [x.1, x.2] at hq'; omega)]
    exact hG.vF t q hq
  · by_cases hx : t = (nd i).term ∧ q = i
    · obtain ⟨rfl, rfl⟩ := hx
      rw [hvot'] at hq
      subst hq
      rw [hvl']
      by_cases hce : c = q
      · subst hce
        rw [hself rfl]
        exact ⟨hvot', hi, .inr ⟨rfl, Nat.le_refl _⟩, ⟨e.agree hN.logA, hT rfl⟩, e.agree hN.logA⟩
      · obtain ⟨a, b⟩ := hc hce
        have hne : ¬ ((nd q).term = (nd q).term ∧ c = q) := fun y => hce y.2
        rw [hclog _ _ hne, hvot _ _ hne]
        obtain ⟨_, _, _, y, _⟩ := hG.votes _ c c hd a
        exact ⟨a, hc0, b, ⟨e.agree y.1, y.2⟩, e.agree hN.logA⟩
    · rw [hvot _ _ hx] at hq
      obtain ⟨y, y2, z⟩ := hG.votes t q d hd hq
      rw [hvl _ _ hx, hvot _ _ (hkeep t d (by omega)), hclog _ _ (hkeep t d (by omega))]
      obtain ⟨b, c, d⟩ := z
      exact ⟨y, y2, b, ⟨e.agree c.1, c.2⟩, e.agree d⟩
  · have hl : Live g t k := f.to rfl rfl
    by_cases hx : t' = (nd i).term ∧ q = i
    · obtain ⟨rfl, rfl⟩ := hx
      rw [hvl']
      exact hN.ncomp t k c' hl
    · rw [hvl _ _ hx]
      rw [hvot _ _ hx] at b
      exact hG.vcomp t t' q k a b c' hl
  · rw [hterm, hv]; exact hvot'
  · rw [hlog]; exact hN.ncomp t k hk (hl.to rfl rfl)
  · obtain ⟨a, b, d⟩ := h4 hr
    rw [hterm, hlog, b, d]
    obtain ⟨x, y, z, w⟩ := hN.lead a
    exact ⟨x, y, z, w⟩
  · obtain ⟨a, b⟩ := h3 hr
    rw [hterm, b, hself a, hlog]
    refine ⟨by rw [hv, a], fun hl => ?_, ⟨by simp, fun p hp => ?_⟩, fun _ _ _ _ hh => hh⟩
    · have := (hG.llQ (nd i).term (by show g.lid _ ≠ 0; rw [show g.lid (nd i).term = i from hl]; omega)).2.1
      rw [show g.lid (nd i).term = i from hl, hv0] at this
      omega
    · obtain rfl : p = i := by simpa using hp
      exact ⟨hi, by rw [hvot', a]⟩
def Dead (g : Gh) (T : Nat) (L : List Ent) (t k : Nat) : Prop := t < T ∧ g.cert t k = [] ∧ ((g.llog t).length < k ∨ (1 ≤ t ∧ 1 ≤ k ∧ tmL (g.llog t) k = t ∧ ¬ Has L (g.llog t) k))
open Classical in
noncomputable def Gh.kill (g : Gh) (T : Nat) (L : List Ent) (Q : List Nat) : Gh := { g with cert := fun t k => if Dead g T L t k then Q else g.cert t k }
theorem Inv.kill (h : Inv n nd net g) {T c : Nat} {Q : List Nat} (hc0 : c ≠ 0) (hQ : Maj n Q) (hq : ∀ q, q ∈ Q → g.voted T q = c) (hL : ∀ t k, t < T → Live g t k → Has (g.clog T c) (g.llog t) k → Has L (g.llog t) k) :
    Inv n nd net (g.kill T L Q) ∧ Ext nd nd g (g.kill T L Q) ∧ (∀ t k, t < T → Live (g.kill T L Q) t k → Has L (g.llog t) k) ∧ ∀ t k, t < T → (g.llog t).length < k → (g.kill T L Q).cert t k ≠ [] := by
  have hG := h.gh
  have hQ0 : Q ≠ [] := fun e => by have := hQ.big; rw [e] at this; simp at this
  have hyes : ∀ t k, Dead g T L t k → (g.kill T L Q).cert t k = Q := fun t k hd => by unfold Gh.kill; simp only; rw [if_pos hd]
  have hnot : ∀ t k, ¬ Dead g T L t k → (g.kill T L Q).cert t k = g.cert t k := fun t k hd => by unfold Gh.kill; simp only; rw [if_neg hd]
  have hold : ∀ t k, g.cert t k ≠ [] → (g.kill T L Q).cert t k = g.cert t k := fun t k hc => hnot t k fun hd => hc hd.2.1
  have hlive : ∀ t k, Live (g.kill T L Q) t k → Live g t k ∧ ¬ Dead g T L t k := fun t k hl => by
    have hd : ¬ Dead g T L t k := fun hd => hQ0 (by rw [← hyes t k hd]; exact hl.no)
    exact ⟨⟨hl.t1, hl.i1, hl.at_, by rw [← hnot t k hd]; exact hl.no⟩, hd⟩
  have e : Ext nd nd g (g.kill T L Q) := ⟨fun _ => Nat.le_refl _, fun _ _ => Nat.le_refl _, fun _ _ x => ⟨x, rfl⟩, fun _ _ => rfl, fun _ _ _ => rfl, fun _ _ _ => rfl, fun _ _ _ _ => rfl, fun _ _ _ => rfl, hold, rfl⟩
  have hg : GhOK n (fun q => (nd q).term) (g.kill T L Q) := by
    refine ⟨hG.llT, fun t => e.agree (hG.llA t), hG.llQ, hG.llN, hG.vF, fun t q d hd hv => ?_, fun t t' k a b c => hG.comp t t' k a b (hlive t k c).1, fun t t' k a b c => ?_, fun t t' q k a b c d => hG.vcomp t t' q k a b c (hlive t k d).1, hG.ackL, fun t k hc => ?_, hG.len⟩
    · obtain ⟨a, a2, b, f, x⟩ := hG.votes t q d hd hv
      exact ⟨a, a2, b, ⟨e.agree f.1, f.2⟩, e.agree x⟩
    · have := hG.compF t t' k a b c
      rw [hold t k this]; exact this
    · by_cases hd : Dead g T L t k
      · rw [hyes t k hd]
        refine ⟨hQ, fun r hr => ⟨?_, ?_⟩⟩
        · refine Nat.lt_of_lt_of_le hd.1 (Classical.byContradiction fun hn => ?_)
          have := (hG.vF T r (by omega)).1
          rw [hq r hr] at this
          exact hc0 this
        · show g.ack t r < k
          refine Classical.byContradiction fun hn => ?_
          have hk := hG.ackL t r
          rcases hd.2.2 with x | ⟨x1, x2, x3, x4⟩
          · omega
          · have hl : Live g t k := ⟨x1, x2, x3, hd.2.1⟩
            have hvr : g.voted T r ≠ 0 := by rw [hq r hr]; exact hc0
            obtain ⟨_, _, b, f, y⟩ := hG.votes T r c hc0 (hq r hr)
            exact x4 (hL t k hd.1 hl (elect hG.llT (fun v h1 h2 h3 => hG.comp t v k h1 h3 hl) f.1 f.2 y b x2 x1 x3 (hG.vcomp t T r k hd.1 hvr (by omega) hl)))
      · rw [hnot t k hd] at hc ⊢
        exact hG.cert t k hc
  refine ⟨⟨hg, fun j => ?_, fun m hm => ⟨e.msg (h.msgs m hm).1, (h.msgs m hm).2⟩⟩, e, fun t k ht hl => ?_, fun t k ht hk => ?_⟩
  · exact (h.nds j).ext hG e (fun _ => rfl) rfl (fun _ => rfl) fun hr => ⟨((h.nds j).cand hr).2.1, rfl⟩
  · obtain ⟨a, b⟩ := hlive t k hl
    exact Classical.byContradiction fun hn => b ⟨ht, a.no, .inr ⟨a.t1, a.i1, a.at_, hn⟩⟩
  · by_cases hc : g.cert t k = []
    · rw [hyes t k ⟨ht, hc, .inl hk⟩]; exact hQ0
    · rw [hold t k hc]; exact hc
theorem take_pre {l L : List Ent} (h : l <+: L) {k : Nat} (hk : k ≤ l.length) : L.take k = l.take k := by
  obtain ⟨r, rfl⟩ := h
  rw [List.take_append_of_le_length hk]
def Gh.grow (g : Gh) (T i : Nat) (L : List Ent) : Gh := { g with lid := upd1 g.lid T i, llog := upd1 g.llog T L, ack := upd2 g.ack T i L.length }
theorem Inv.grow (h : Inv n nd net g) (hi : 1 ≤ i ∧ i ≤ n) (hT1 : 1 ≤ (nd i).term) (hid : s.id = i) (hterm : s.term = (nd i).term) (hvote : s.vote = (nd i).vote) (hcm : s.commit = (nd i).commit) (hsn : s.snap = (nd i).snap) (hrole : s.role = 4) (hL : s.log = L)
    (hpre : g.llog (nd i).term <+: L) (hpre' : (nd i).log <+: L) (hnew : ∀ k, (nd i).log.length < k → k ≤ L.length → tmL L k = (nd i).term) (hlid : g.lid (nd i).term = 0 ∨ g.lid (nd i).term = i)
    (hQ : g.voted (nd i).term i = i ∧ ∃ Q, Maj n Q ∧ ∀ q, q ∈ Q → g.voted (nd i).term q = i)
    (hcomp : ∀ t k, t < (nd i).term → Live g t k → Has L (g.llog t) k) (hcompF : ∀ t k, t < (nd i).term → (g.llog t).length < k → g.cert t k ≠ [])
    (hlen : L.length ≤ (nd i).term + 16 * g.pn) (hmt : ∀ p, p ≠ i → Claim g (nd i).term p (s.mt p) ∧ s.mt p < s.nx p ∧ s.nx p ≤ L.length + 1) : Inv n (setN nd i s) net (g.grow (nd i).term i L) := by
  have hN := h.nds i
  have htm := setN_eq (i := i) hterm
  have lidT : (g.grow (nd i).term i L).lid (nd i).term = i := upd1_at ..
  have lidF : ∀ t, t ≠ (nd i).term → (g.grow (nd i).term i L).lid t = g.lid t := fun t ht => upd1_ne _ _ ht
  have llT : (g.grow (nd i).term i L).llog (nd i).term = L := upd1_at ..
  have llF : ∀ t, t ≠ (nd i).term → (g.grow (nd i).term i L).llog t = g.llog t := fun t ht => upd1_ne _ _ ht
  have acT : (g.grow (nd i).term i L).ack (nd i).term i = L.length := upd2_at ..
  have acF : ∀ t q, ¬ (t = (nd i).term ∧ q = i) → (g.grow (nd i).term i L).ack t q = g.ack t q := fun t q hne => upd2_ne _ _ hne
  have hG := h.gh.tm (mu' := fun q => (setN nd i s q).term) fun q => Nat.le_of_eq (htm q).symm
  have hTL : ∀ k, tmL L k ≤ (nd i).term := fun k => by
    by_cases hx : k ≤ (nd i).log.length
    · rw [Rf.tmL_congr (take_pre hpre' hx) (Nat.le_refl _)]; exact hN.logT k
    · by_cases hy : k ≤ L.length
      · exact Nat.le_of_eq (hnew k (by omega) hy)
      · rw [Rf.tmL_past L (by omega)]; exact Nat.zero_le _
  have e : Ext nd (setN nd i s) g (g.grow (nd i).term i L) := by
    refine ⟨fun q => Nat.le_of_eq (htm q).symm, fun t q => ?_, fun t k hk => ?_, fun t ht => ?_, fun _ _ _ => rfl, fun _ _ _ => rfl, fun _ _ _ _ => rfl, fun _ _ _ => rfl, fun _ _ _ => rfl, rfl⟩
    · by_cases hx : t = (nd i).term ∧ q = i
      · obtain ⟨rfl, rfl⟩ := hx
        rw [acT]; exact Nat.le_trans (hG.ackL _ _) hpre.length_le
      · rw [acF _ _ hx]; exact Nat.le_refl _
    · by_cases hx : t = (nd i).term
      · subst hx; rw [llT]; exact ⟨Nat.le_trans hk hpre.length_le, take_pre hpre hk⟩
      · rw [llF _ hx]; exact ⟨hk, rfl⟩
    · by_cases hx : t = (nd i).term
      · subst hx; rw [lidT]; rcases hlid with y | y
        · exact absurd y ht
        · exact y.symm
      · exact lidF _ hx
  have live : ∀ t k, Live (g.grow (nd i).term i L) t k → k ≤ (g.llog t).length → Live g t k := fun t k hl hk => e.live hl hk
  have lenF : ∀ t k, t ≠ (nd i).term → Live (g.grow (nd i).term i L) t k → k ≤ (g.llog t).length := fun t k ht hl => by
    have := hl.len
    rwa [llF _ ht] at this
  refine h.turn e ⟨fun t k => ?_, fun t => ?_, fun t ht => ?_, fun t ht => ?_, fun t q hq => ?_, fun t q d hd hq => ?_, fun t t' k a b hl => ?_, fun t t' k a b c => ?_, fun t t' q k a b c hl => ?_, fun t q => ?_, fun t k hc => ?_, fun t => ?_⟩ ⟨hid, fun _ => hi, ?_, fun t k hk hl => ?_, ?_, fun k => by rw [hL, hterm]; exact hTL k, by rw [hsn, hcm]; exact hN.snap, ?_, fun hx => ?_, fun _ => ?_, fun hr => by omega⟩
    (fun t q hq => acF t q fun x => hq x.2) (fun _ _ _ => rfl) (fun q hq hr => llF _ fun hx => ?_) (fun q hq hr => ⟨?_, rfl⟩)
  · by_cases hx : t = (nd i).term
    · subst hx; rw [llT]; exact hTL k
    · rw [llF _ hx]; exact hG.llT t k
  · by_cases hx : t = (nd i).term
    · subst hx; rw [llT]
      intro k h1 hk
      by_cases hx : k ≤ (nd i).log.length
      · have := e.agree hN.logA k h1 hx
        rw [Rf.tmL_congr (take_pre hpre' hx) (Nat.le_refl _), take_pre hpre' hx]; exact this
      · have ht := hnew k (by omega) hk
        rw [ht, llT, lidT]; exact ⟨hT1, by omega, hk, rfl⟩
    · rw [llF _ hx]; exact e.agree (hG.llA t)
  · by_cases hx : t = (nd i).term
    · subst hx; rw [lidT]; exact ⟨hT1, hQ⟩
    · rw [lidF _ hx] at ht ⊢; exact hG.llQ t ht
  · have hx : t ≠ (nd i).term := fun hx => by rw [hx, lidT] at ht; omega
    rw [lidF _ hx] at ht
    rw [llF _ hx]
    exact ⟨(hG.llN t ht).1, fun q => by rw [acF _ _ (fun z => hx z.1)]; exact (hG.llN t ht).2 q⟩
  · have hq' : (setN nd i s q).term < t := hq
    rw [htm] at hq'
    rw [acF _ _ (fun x => by rw [x.1, x.2] at hq'; omega)]
    exact hG.vF t q hq
  · obtain ⟨a, a2, b, d, f⟩ := hG.votes t q d hd hq
    exact ⟨a, a2, b, ⟨e.agree d.1, d.2⟩, e.agree f⟩
  · by_cases hx' : t' = (nd i).term
    · subst hx'
      have hx : t ≠ (nd i).term := by omega
      rw [llT, llF _ hx]
      exact hcomp t k a (live t k hl (lenF t k hx hl))
    · rw [lidF _ hx'] at b
      rw [llF _ hx']
      by_cases hk : k ≤ (g.llog t).length
      · exact e.has (hG.comp t t' k a b (live t k hl hk)) hk
      · exact absurd hl.no (hG.compF t t' k a b (by omega))
  · by_cases hx' : t' = (nd i).term
    · subst hx'
      rw [llF _ (by omega)] at c
      exact hcompF t k a c
    · rw [lidF _ hx'] at b
      refine hG.compF t t' k a b (Nat.lt_of_le_of_lt ?_ c)
      by_cases hx : t = (nd i).term
      · subst hx; rw [llT]; exact hpre.length_le
      · rw [llF _ hx]; exact Nat.le_refl _
  · by_cases hx : t = (nd i).term ∧ q = i
    · obtain ⟨rfl, rfl⟩ := hx
      exact absurd (h.gh.vF t' q a).1 b
    · rw [acF _ _ hx] at c
      have hk := Nat.le_trans c (hG.ackL t q)
      exact e.has (hG.vcomp t t' q k a b c (live t k hl hk)) hk
  · by_cases hx : t = (nd i).term ∧ q = i
    · obtain ⟨rfl, rfl⟩ := hx
      rw [acT, llT]; exact Nat.le_refl _
    · rw [acF _ _ hx]
      exact (e.llog t _ (hG.ackL t q)).1
  · obtain ⟨a, b⟩ := hG.cert t k hc
    refine ⟨a, fun r hr => ⟨(b r hr).1, ?_⟩⟩
    rw [acF _ _ (fun x => by have h2 := (b r hr).1; rw [x.1, x.2] at h2; have h2 : (nd i).term < (setN nd i s i).term := h2; rw [htm] at h2; exact Nat.lt_irrefl _ h2)]
    exact (b r hr).2
  · by_cases hx : t = (nd i).term
    · subst hx; rw [llT]; exact hlen
    · rw [llF _ hx]; exact hG.len t
  · rw [hterm, hvote]; exact hN.voteN
  · rw [hL]
    by_cases hx : t = (nd i).term
    · subst hx
      rw [acT] at hk
      rw [llT]; exact Has.refl hk
    · rw [acF _ _ (fun x => hx x.1)] at hk
      have hk' := Nat.le_trans hk (hG.ackL t i)
      have := e.has (hN.ncomp t k hk (live t k hl hk')) hk'
      exact ⟨Nat.le_trans this.1 hpre'.length_le, by rw [take_pre hpre' this.1]; exact this.2⟩
  · rw [hL]
    intro k h1 hk
    by_cases hx : k ≤ (nd i).log.length
    · have := e.agree hN.logA k h1 hx
      rw [Rf.tmL_congr (take_pre hpre' hx) (Nat.le_refl _), take_pre hpre' hx]; exact this
    · have ht := hnew k (by omega) hk
      rw [ht, llT, lidT]; exact ⟨hT1, by omega, hk, rfl⟩
  · rw [hL, hcm]
    exact e.commT hN.comm ⟨Nat.le_trans hN.comm.1 hpre'.length_le, take_pre hpre' hN.comm.1⟩ fun _ h => h
  · rw [hL, hcm, hterm]
    exact e.commT (hN.tell (by rw [← hsn, ← hcm]; exact hx)) ⟨Nat.le_trans hN.comm.1 hpre'.length_le, take_pre hpre' hN.comm.1⟩ fun _ h => h.imp (fun x => x) e.late
  · rw [hterm, lidT, llT, acT, hL]
    exact ⟨rfl, rfl, rfl, fun p hp => ⟨e.claim (hmt p hp).1, (hmt p hp).2⟩⟩
  · have a := (h.nds q).lead hr
    have hq1 := ((h.nds q).rng (by omega)).1
    rw [hx] at a
    rcases hlid with y | y
    · rw [y] at a; omega
    · rw [y] at a; exact hq a.1.symm
  · by_cases hx : (nd q).term = (nd i).term
    · rw [hx, lidT]; exact fun y => hq y.symm
    · rw [lidF _ hx]; exact ((h.nds q).cand hr).2.1
def Gh.took (g : Gh) (T i r : Nat) : Gh := { g with ack := upd2 g.ack T i (max (g.ack T i) r) }
theorem Inv.take (h : Inv n nd net g) (r : Nat) (hi : 1 ≤ i ∧ i ≤ n) (hid : s.id = i) (hterm : s.term = (nd i).term) (hvote : s.vote = (nd i).vote) (hrole : s.role = 1) (hlid : g.lid (nd i).term ≠ 0)
    (hr : Has s.log (g.llog (nd i).term) r) (hrl : r ≤ (g.llog (nd i).term).length) (hkeep : ∀ k, Has (nd i).log (g.llog (nd i).term) k → Has s.log (g.llog (nd i).term) k) (hA : Agree g s.log) (hT : ∀ k, tmL s.log k ≤ s.term)
    (hs : s.snap ≤ s.commit) (hc : CommOK n g s.log s.commit) (ht : s.snap < s.commit → CommT n g (fun t0 => t0 ≤ s.term ∨ Late n (fun q => (nd q).term) g s.term t0) s.log s.commit) : Inv n (setN nd i s) net (g.took (nd i).term i r) ∧ Ext nd (setN nd i s) g (g.took (nd i).term i r) := by
  have hN := h.nds i
  have htm := setN_eq (i := i) hterm
  have acT : (g.took (nd i).term i r).ack (nd i).term i = max (g.ack (nd i).term i) r := upd2_at ..
  have acF : ∀ t q, ¬ (t = (nd i).term ∧ q = i) → (g.took (nd i).term i r).ack t q = g.ack t q := fun t q hne => upd2_ne _ _ hne
  have hG := h.gh.tm (mu' := fun q => (setN nd i s q).term) fun q => Nat.le_of_eq (htm q).symm
  have e : Ext nd (setN nd i s) g (g.took (nd i).term i r) := by
    refine ⟨fun q => Nat.le_of_eq (htm q).symm, fun t q => ?_, fun _ _ x => ⟨x, rfl⟩, fun _ _ => rfl, fun _ _ _ => rfl, fun _ _ _ => rfl, fun _ _ _ _ => rfl, fun _ _ _ => rfl, fun _ _ _ => rfl, rfl⟩
    by_cases hx : t = (nd i).term ∧ q = i
    · obtain ⟨rfl, rfl⟩ := hx
      rw [acT]; exact Nat.le_max_left ..
    · rw [acF _ _ hx]; exact Nat.le_refl _
  refine ⟨h.turn e ⟨hG.llT, fun t => e.agree (hG.llA t), hG.llQ, fun t ht => ⟨(hG.llN t ht).1, fun q => ?_⟩, fun t q hq => ?_, fun t q d hd hq => ?_, fun t t' k a b c => hG.comp t t' k a b (c.to rfl rfl), hG.compF, fun t t' q k a b c hl => ?_, fun t q => ?_, fun t k hc => ?_, hG.len⟩ ⟨hid, fun x => absurd hrole x, by rw [hterm, hvote]; exact hN.voteN, fun t k hk hl => ?_, e.agree hA, hT, hs, e.commT hc ⟨hc.1, rfl⟩ fun _ h => h, fun hx => e.commT (ht hx) ⟨hc.1, rfl⟩ fun _ h => h.imp (fun x => x) e.late, fun hx => by omega, fun hx => by omega⟩
    (fun t q hq => acF t q fun x => hq x.2) (fun _ _ _ => rfl) (fun _ _ _ => rfl) (fun q hq hr => ⟨((h.nds q).cand hr).2.1, rfl⟩), e⟩
  · rw [acF _ _ (fun x => hlid (by rw [← x.1]; exact ht))]; exact (hG.llN t ht).2 q
  · have hq' : (setN nd i s q).term < t := hq
    rw [htm] at hq'
    rw [acF _ _ (fun x => by rw [x.1, x.2] at hq'; omega)]
    exact hG.vF t q hq
  · obtain ⟨a, a2, b, d, f⟩ := hG.votes t q d hd hq
    exact ⟨a, a2, b, ⟨e.agree d.1, d.2⟩, e.agree f⟩
  · by_cases hx : t = (nd i).term ∧ q = i
    · obtain ⟨rfl, rfl⟩ := hx
      exact absurd (h.gh.vF t' q a).1 b
    · rw [acF _ _ hx] at c
      exact hG.vcomp t t' q k a b c (hl.to rfl rfl)
  · by_cases hx : t = (nd i).term ∧ q = i
    · obtain ⟨rfl, rfl⟩ := hx
      rw [acT]; exact Nat.max_le.2 ⟨hG.ackL _ _, hrl⟩
    · rw [acF _ _ hx]; exact hG.ackL t q
  · obtain ⟨a, b⟩ := hG.cert t k hc
    refine ⟨a, fun r hr => ⟨(b r hr).1, ?_⟩⟩
    rw [acF _ _ (fun x => by have h2 := (b r hr).1; rw [x.1, x.2] at h2; have h2 : (nd i).term < (setN nd i s i).term := h2; rw [htm] at h2; exact Nat.lt_irrefl _ h2)]
    exact (b r hr).2
  · have hl : Live g t k := hl.to rfl rfl
    by_cases hx : t = (nd i).term
    · subst hx
      rw [acT] at hk
      by_cases hkr : k ≤ r
      · exact hr.mono hkr
      · exact hkeep k (hN.ncomp _ k (by omega) hl)
    · rw [acF _ _ (fun x => hx x.1)] at hk
      have ht : t < (nd i).term := by
        rcases Nat.lt_or_ge t (nd i).term with y | y
        · exact y
        · have := (h.gh.vF t i (by show (nd i).term < t; omega)).2
          have := hl.i1
          omega
      have h1 := h.gh.comp t _ k ht hlid hl
      have h2 := hN.ncomp t k hk hl
      exact h1.trans (hkeep k ⟨h2.1, by rw [h2.2, h1.2]⟩)
theorem install_keeps {mu : Nat → Nat} (hG : GhOK n mu g) {l : List Ent} {t0 c' : Nat} (hc : Comm n g t0 c') (hle : L.length ≤ c') (hL : L = (g.llog t0).take L.length) {t k : Nat} (hl : Live g t k) (hh : Has l (g.llog t) k) :
    Has (if L.length ≤ l.length ∧ tmL l L.length = tmL L L.length then l else L) (g.llog t) k := by
  by_cases hx : L.length ≤ l.length ∧ tmL l L.length = tmL L L.length
  · rw [if_pos hx]; exact hh
  · rw [if_neg hx]
    have hlv := hc.live hG
    have key : ∀ X : List Ent, Has X (g.llog t) k → X.take L.length = L → L.length ≤ X.length → Has L (g.llog t) k := fun X h1 h2 h3 => by
      by_cases hk : k ≤ L.length
      · exact ⟨hk, by rw [← h1.2, ← h2, List.take_take, Nat.min_eq_left hk]⟩
      · refine absurd ⟨by have := hh.1; omega, ?_⟩ hx
        have : l.take L.length = L := (Rf.take_of_take (j := k) (hh.2.trans h1.2.symm) (by omega)).trans h2
        refine Rf.tmL_congr (j := L.length) ?_ (Nat.le_refl _)
        rw [this, List.take_length]
    have hlen := hc.len
    have hLl : (g.llog t0).take L.length = L := hL.symm
    rcases Nat.lt_trichotomy t t0 with y | y | y
    · exact key _ (hG.comp t t0 k y (hc.lid hG) hl) hLl (by omega)
    · subst y; exact key _ (Has.refl hl.len) hLl (by omega)
    · have hlt : g.lid t ≠ 0 := fun h0 => by
        have := hl.len
        rw [(hG.llN t h0).1] at this
        have := hl.i1
        simp at *
        omega
      have h1 := hG.comp t0 t c' y hlt hlv
      exact key _ (Has.refl hl.len) ((Rf.take_of_take h1.2 hle).trans hLl) (Nat.le_trans hle h1.1)
end
end Go.Proofs.YtocogcgnahbpkaaGreat.Rs
