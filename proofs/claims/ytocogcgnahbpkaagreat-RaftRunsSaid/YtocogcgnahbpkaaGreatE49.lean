/-
  A part of the proof of what E53 says at its head.
-/
import Derived.Test.YtocogcgnahbpkaaGreatE48
namespace Go.Proofs.YtocogcgnahbpkaaGreat.Rs
open Rf (Ent Msg Cfg tmL Maj upTo nodup_le)
section
variable {n : Nat} {nd : Nat → Nd} {g g0 : Gh} {net : List Msg} {i : Nat} {s s' : Nd} {ms ms' : List Msg} {c : Cfg} {draw : Int} {m : Msg} {room : Nat}
theorem merge_spec {log L : List Ent} (hA : Agree g log) (hAL : Agree g L) (es : List Ent) : ∀ j, j ≤ log.length → j + es.length ≤ L.length → es = (L.drop j).take es.length → log.take j = L.take j →
    j ≤ (merge room log j es).2 ∧ (merge room log j es).2 ≤ L.length ∧ (merge room log j es).2 ≤ (merge room log j es).1.length ∧ (merge room log j es).1.take (merge room log j es).2 = L.take (merge room log j es).2 ∧ ((merge room log j es).1 = log ∨ ((merge room log j es).1 = L.take (merge room log j es).2 ∧ ∀ k, k ≤ log.length → log.take k = L.take k → k ≤ (merge room log j es).2)) ∧ (merge room log j es).2 ≤ j + es.length := by
  induction es with
  | nil => intro j h1 h2 _ h4; exact ⟨Nat.le_refl _, by simpa [merge] using h2, h1, h4, .inl rfl, Nat.le_refl _⟩
  | cons e es ih =>
    intro j h1 h2 h3 h4
    rw [List.length_cons] at h2
    have hj : j < L.length := by omega
    have hd : L.drop j = L[j] :: L.drop (j + 1) := (List.drop_eq_getElem_cons hj)
    have he : e = L[j] ∧ es = (L.drop (j + 1)).take es.length := by
      rw [hd, List.length_cons, List.take_succ_cons] at h3
      injection h3 with a b
      exact ⟨a, b⟩
    have hLt : tmL L (j + 1) = e.term := by
      unfold tmL
      rw [if_neg (by omega), show j + 1 - 1 = j from rfl, List.getElem?_eq_getElem hj, he.1]; rfl
    unfold merge
    split
    · rename_i hc
      have hjl : j < log.length := by
        refine Classical.byContradiction fun hn => ?_
        rw [List.getElem?_eq_none (by omega)] at hc
        simp at hc
      have hlt : tmL log (j + 1) = e.term := by
        unfold tmL
        rw [if_neg (by omega), show j + 1 - 1 = j from rfl, hc]; rfl
      have := hA.same hAL (k := j + 1) (by omega) hjl hj (by rw [hlt, hLt])
      obtain ⟨a, b, d, f, x, y⟩ := ih (j + 1) hjl (by omega) he.2 this
      exact ⟨by omega, b, d, f, x, by rw [List.length_cons]; omega⟩
    · rename_i hc
      simp only
      generalize hr : room - (log.take j).length = r
      have hlj : (log.take j).length = j := by rw [List.length_take]; omega
      have ht : ((e :: es).take r) = (L.drop j).take ((e :: es).take r).length := by
        rw [List.length_take]
        conv => lhs; rw [h3]
        rw [List.take_take]
      have htl : ((e :: es).take r).length ≤ (e :: es).length := by rw [List.length_take]; omega
      rw [List.length_cons] at htl
      have hall : log.take j ++ (e :: es).take r = L.take (j + ((e :: es).take r).length) := by
        rw [h4]
        conv => lhs; rw [ht]
        exact (List.take_add ..).symm
      have hlen : (log.take j ++ (e :: es).take r).length = j + ((e :: es).take r).length := by rw [List.length_append, hlj]
      refine ⟨by omega, by omega, by rw [hlen]; exact Nat.le_refl _, ?_, .inr ⟨hall, fun k hk hp => ?_⟩, by rw [List.length_cons]; omega⟩
      · rw [hall, List.take_take, Nat.min_self]
      · refine Classical.byContradiction fun hn => ?_
        have hjk : j + 1 ≤ k := by omega
        have hjl : j < log.length := by omega
        have := Rf.tmL_congr (k := j + 1) hp hjk
        rw [hLt] at this
        unfold tmL at this
        rw [if_neg (by omega), show j + 1 - 1 = j from rfl, List.getElem?_eq_getElem hjl] at this
        rw [List.getElem?_eq_getElem hjl] at hc
        exact hc (by simpa using this)
theorem greatest (P : Nat → Prop) (h0 : P 0) (c : Nat) : ∃ a, a ≤ c ∧ P a ∧ ∀ j, j ≤ c → P j → j ≤ a := by
  induction c with
  | zero => exact ⟨0, Nat.le_refl _, h0, fun j h _ => h⟩
  | succ c ih =>
    by_cases h : P (c + 1)
    · exact ⟨c + 1, Nat.le_refl _, h, fun j h _ => h⟩
    · obtain ⟨a, x, y, z⟩ := ih
      refine ⟨a, by omega, y, fun j h1 h2 => z j ?_ h2⟩
      refine Classical.byContradiction fun hn => h ?_
      obtain rfl : j = c + 1 := by omega
      exact h2
def Gone (g : Gh) (T i r k : Nat) : Prop := ∀ j, r < j → j ≤ k → (j ≤ (g.llog T).length → tmL (g.llog T) j = T) → g.cert T j ≠ [] ∧ i ∉ g.cert T j
theorem claimed {T r k : Nat} (h : Gone g T i r k) : Claim (g.took T i r) T i k := fun j _ hk hx => by
  rcases Nat.lt_or_ge r j with a | a
  · exact .inr (h j a hk hx)
  · refine .inl ?_
    show j ≤ upd2 g.ack T i (max (g.ack T i) r) T i
    rw [upd2_at]
    exact Nat.le_trans a (Nat.le_max_right ..)
theorem commit_claim (hI : Inv n (setN nd i s) net g) (hlid : g.lid s.term ≠ 0) : ∃ r, r ≤ (g.llog s.term).length ∧ Has s.log (g.llog s.term) r ∧ Gone g s.term i r s.commit := by
  have hN := hI.at_
  have hG := hI.gh
  obtain ⟨a, a1, a2, a3⟩ := greatest (fun j => j ≤ (g.llog s.term).length ∧ Has s.log (g.llog s.term) j) ⟨Nat.zero_le _, Nat.zero_le _, by simp⟩ s.commit
  refine ⟨a, a2.1, a2.2, fun j h1 h2 h3 => ?_⟩
  rcases hN.comm.2 with h0 | ⟨t0, c', x, y, z, _⟩
  · omega
  · rcases Nat.lt_or_ge s.term t0 with u | u
    · have hne : g.cert s.term j ≠ [] := fun hc => by
        rcases Nat.lt_or_ge (g.llog s.term).length j with v | v
        · exact hG.compF _ _ _ u (y.lid hG) v hc
        · have hl : Live g s.term j := ⟨(hG.llQ _ hlid).1, by omega, h3 v, hc⟩
          have h4 := hG.comp _ _ _ u (y.lid hG) hl
          have := a3 j h2 ⟨v, Nat.le_trans h2 hN.comm.1, by rw [Rf.take_of_take z h2, h4.2]⟩
          omega
      refine ⟨hne, fun hm => ?_⟩
      have := ((hG.cert _ _ hne).2 i hm).1
      have e : (setN nd i s i).term = s.term := by rw [setN_at]
      omega
    · have hh : Has (g.llog s.term) (g.llog t0) c' := by
        rcases Nat.lt_or_ge t0 s.term with v | v
        · exact hG.comp _ _ _ v hlid (y.live hG)
        · obtain rfl : t0 = s.term := by omega
          exact Has.refl y.len
      have := a3 s.commit (Nat.le_refl _) ⟨Nat.le_trans x hh.1, hN.comm.1, by rw [z]; exact (hh.mono x).2.symm⟩
      omega
theorem Good.taken (hG : Good n nd i net g0 s ms) (hm : m ∈ net) (hd : m.dst = i) (x : Nat) (L : List Ent) (k : Nat) (hrole : s.role = 1) (hT1 : 1 ≤ s.term)
    (h : ∀ g, Inv n (setN nd i s) (net ++ ms) g → g.lid s.term ≠ 0 ∧ (s.snap ≤ k ∧ CommOK n g L k ∧ (s.snap < k → CommT n g (fun t0 => t0 ≤ s.term ∨ Late n (mu nd i s) g s.term t0) L k)) ∧
      ∃ r, r ≤ (g.llog s.term).length ∧ Has L (g.llog s.term) r ∧ (L = s.log ∨ (L = (g.llog s.term).take r ∧ ∀ k, k ≤ s.log.length → s.log.take k = (g.llog s.term).take k → k ≤ r)) ∧ Gone g s.term i r x) : Good n nd i net g0 { s with log := L, commit := k } (ms ++ [re s m 6 s.term x false 0]) := by
  have hi := hG.1
  refine hG.to fun g hI => ?_
  obtain ⟨a, ⟨b1, b2, b3⟩, r, d, f, p, q⟩ := h g hI
  have hN := hI.at_
  have hat : setN nd i s i = s := setN_at ..
  have hA : Agree g L := by
    rcases p with p | p
    · rw [p]; exact hN.logA
    · rw [p.1]; exact (hI.gh.llA _).take r
  have hT : ∀ k, tmL L k ≤ s.term := fun k => by
    rcases p with p | p
    · rw [p]; exact hN.logT k
    · rw [p.1]
      by_cases hk : k ≤ r
      · rw [Rf.tmL_take _ hk]; exact hI.gh.llT _ _
      · rw [Rf.tmL_past _ (by rw [List.length_take]; omega)]; exact Nat.zero_le _
  have h1 := hI.take (i := i) (s := { s with log := L, commit := k }) r hi hN.id (by rw [hat]) (by rw [hat]) hrole (by rw [hat]; exact a) (by rw [hat]; exact f) (by rw [hat]; exact d) (fun j hj => by
    rw [hat] at hj ⊢
    rcases p with p | p
    · rw [show ({ s with log := L, commit := k } : Nd).log = L from rfl, p]; exact hj
    · have := p.2 j hj.1 hj.2
      exact f.mono this) hA hT b1 b2 b3
  rw [hat] at h1
  refine ⟨_, ?_, h1.2⟩
  refine h1.1.net' fun y hy => ?_
  rw [← List.append_assoc] at hy
  rcases List.mem_append.1 hy with y | y
  · exact .inl y
  · obtain rfl := List.mem_singleton.1 y
    have hM := (h1.1.msgs m (List.mem_append_left _ hm)).1
    have := re_ok (s := s) (i := i) (k := 6) (T := s.term) (x := x) (h := 0) (r := false) (.inr (.inr rfl)) hT1 hi hN.id hM hd no (fun _ _ => claimed q) (fun _ h => by simp at h) (fun _ => Nat.le_refl _)
    exact .inr ⟨this.1, by rw [this.2.1, setN_at]; exact this.2.2⟩
theorem no_mid {tm : Nat → Nat} {T : Nat} {L : List Ent} {k : Nat} (h : CommT n g (fun t0 => t0 ≤ T ∨ T < tm i ∨ Late n tm g T t0) L k) (hi : tm i = T) : CommT n g (fun t0 => t0 ≤ T ∨ Late n tm g T t0) L k := h.mono fun _ h => by
  rcases h with h | h | h
  · exact .inl h
  · omega
  · exact .inr h
theorem CommT.to {P : Nat → Prop} {l L : List Ent} {j k : Nat} (h : CommT n g P L k) (hj : j ≤ k) (hl : Has l L j) : CommT n g P l j := by
  refine ⟨hl.1, ?_⟩
  rcases h.2 with h0 | ⟨t0, c', a, b, d, f⟩
  · exact .inl (by omega)
  · exact .inr ⟨t0, c', by omega, b, by rw [hl.2, Rf.take_of_take d hj], f⟩
theorem Good.append (hG : Good n nd i net g0 s ms) (hm : m ∈ net) (hd : m.dst = i) (hk : m.kind = 5) (ht : m.term = s.term) : Good n nd i net g0 (append c draw m s).1 (ms ++ (append c draw m s).2) := by
  have hi := hG.1
  unfold Rs.append
  simp only
  have h1 : Good n nd i net g0 (Rs.follow c draw m.term m.src s) ms := hG.follow _ _
  have hterm : (Rs.follow c draw m.term m.src s).term = m.term := by show max s.term m.term = m.term; omega
  have hrole : (Rs.follow c draw m.term m.src s).role = 1 := rfl
  generalize Rs.follow c draw m.term m.src s = s1 at h1 hterm hrole ⊢
  have hlid : ∀ g, Inv n (setN nd i s1) (net ++ ms) g → g.lid s1.term ≠ 0 := fun g hI => by
    have hM := Good.msg hI hm
    rw [hterm, (hM.app (.inl hk)).1]; have := hM.rng.1.1; omega
  obtain ⟨g1, hI1⟩ := h1.some
  have hT1 : 1 ≤ s1.term := by rw [hterm]; exact (Good.msg hI1 hm).form.term
  split
  · exact h1.taken hm hd s1.commit s1.log s1.commit hrole hT1 fun g hI => ⟨hlid g hI, ⟨hI.at_.snap, hI.at_.comm, hI.at_.tell⟩, by
      obtain ⟨r, a, b, d⟩ := commit_claim hI (hlid g hI)
      exact ⟨r, a, b, .inl rfl, d⟩⟩
  · rename_i h2
    split
    · rename_i hlt
      refine h1.send _ fun g hI x hx => ?_
      obtain rfl := List.mem_singleton.1 hx
      exact re_ok (.inr (.inr rfl)) hT1 hi hI.at_.id (Good.msg hI hm) hd no (fun _ h => by simp at h) (fun _ _ => .inl hlt) (fun _ => Nat.le_refl _)
    · rename_i h3
      split
      · rename_i hne
        refine h1.send _ fun g hI x hx => ?_
        obtain rfl := List.mem_singleton.1 hx
        have hM := Good.msg hI hm
        refine re_ok (.inr (.inr rfl)) hT1 hi hI.at_.id hM hd no (fun _ h => by simp at h) (fun _ _ => ?_) (fun _ => Nat.le_refl _)
        have : m.idx ≠ 0 := fun h0 => hne (by rw [(hM.form.zero (by omega)).2 h0, h0]; rfl)
        omega
      · rename_i h4
        have h4' : tmL s1.log m.idx = m.lt := Classical.byContradiction h4
        simp only
        generalize hR : s1.snap + 65536 = room
        refine h1.taken hm hd _ _ _ hrole hT1 fun g hI => ?_
        have hM := Good.msg hI hm
        have hN := hI.at_
        obtain ⟨a, b, d, f, hcm⟩ := hM.app (.inl hk)
        rw [← hterm] at a b d f hcm
        rw [hd] at hcm
        have hcm := no_mid hcm mu_at
        have hidx : m.idx ≤ s1.log.length := Nat.le_of_not_lt h3
        have hsame : s1.log.take m.idx = (g.llog s1.term).take m.idx := by
          rcases Nat.eq_zero_or_pos m.idx with h0 | h0
          · rw [h0]; simp
          · exact hN.logA.same (hI.gh.llA s1.term) h0 hidx (by omega) (by rw [h4', d])
        obtain ⟨p1, p2, p3, p4, p5, p6⟩ := merge_spec (room := room) hN.logA (hI.gh.llA s1.term) m.es m.idx hidx b f hsame
        generalize merge room s1.log m.idx m.es = R at p1 p2 p3 p4 p5 p6 ⊢
        have hkeep : Has R.1 s1.log s1.commit := by
          refine ⟨by omega, ?_⟩
          have e1 : R.1.take s1.commit = (g.llog s1.term).take s1.commit := Rf.take_of_take p4 (by omega)
          have e2 : s1.log.take s1.commit = (g.llog s1.term).take s1.commit := Rf.take_of_take hsame (by omega)
          rw [e1, e2]
        have key : ∀ P : Nat → Prop, CommT n g P s1.log s1.commit → CommT n g P (g.llog s1.term) m.commit → CommT n g P R.1 (max s1.commit (min m.commit R.2)) := fun P x y => by
          by_cases hx : min m.commit R.2 ≤ s1.commit
          · rw [Nat.max_eq_left hx]; exact x.to (Nat.le_refl _) hkeep
          · rw [Nat.max_eq_right (by omega)]
            exact y.to (Nat.min_le_left ..) ⟨by omega, Rf.take_of_take p4 (Nat.min_le_right ..)⟩
        refine ⟨hlid g hI, ⟨Nat.le_trans hN.snap (Nat.le_max_left ..), key _ hN.comm (hcm.mono fun _ _ => trivial), fun hs => ?_⟩, R.2, p2, ⟨p3, p4⟩, p5, fun j h1 h2 => by omega⟩
        by_cases hz : s1.snap < s1.commit
        · exact key _ (hN.tell hz) hcm
        · have hx : ¬ min m.commit R.2 ≤ s1.commit := fun hx => by
            rw [Nat.max_eq_left hx] at hs; exact hz hs
          rw [Nat.max_eq_right (by omega)]
          exact hcm.to (Nat.min_le_left ..) ⟨by omega, Rf.take_of_take p4 (Nat.min_le_right ..)⟩
theorem Good.snapshot (hG : Good n nd i net g0 s ms) (hm : m ∈ net) (hd : m.dst = i) (hk : m.kind = 7) (ht : m.term = s.term) : Good n nd i net g0 (snapshot c draw m s).1 (ms ++ (snapshot c draw m s).2) := by
  have hi := hG.1
  unfold Rs.snapshot
  simp only
  have h1 : Good n nd i net g0 (Rs.follow c draw m.term m.src s) ms := hG.follow _ _
  have hterm : (Rs.follow c draw m.term m.src s).term = m.term := by show max s.term m.term = m.term; omega
  have hrole : (Rs.follow c draw m.term m.src s).role = 1 := rfl
  generalize Rs.follow c draw m.term m.src s = s1 at h1 hterm hrole ⊢
  have hlid : ∀ g, Inv n (setN nd i s1) (net ++ ms) g → g.lid s1.term ≠ 0 := fun g hI => by
    have hM := Good.msg hI hm
    rw [hterm, (hM.app (.inr hk)).1]; have := hM.rng.1.1; omega
  obtain ⟨g1, hI1⟩ := h1.some
  have hT1 : 1 ≤ s1.term := by rw [hterm]; exact (Good.msg hI1 hm).form.term
  split
  · exact h1.taken hm hd s1.commit s1.log s1.commit hrole hT1 fun g hI => ⟨hlid g hI, ⟨hI.at_.snap, hI.at_.comm, hI.at_.tell⟩, by
      obtain ⟨r, a, b, d⟩ := commit_claim hI (hlid g hI)
      exact ⟨r, a, b, .inl rfl, d⟩⟩
  · rename_i h2
    split
    · rename_i h3
      refine h1.taken hm hd m.idx s1.log m.idx hrole hT1 fun g hI => ?_
      have hM := Good.msg hI hm
      have hN := hI.at_
      obtain ⟨a, b, d, f, hcm⟩ := hM.app (.inr hk)
      have hsn := hM.snap hk
      rw [← hterm] at a b d f hcm
      rw [hd] at hcm
      have hcm := no_mid hcm mu_at
      have hh : Has s1.log (g.llog s1.term) m.idx := ⟨h3.1, hN.logA.same (hI.gh.llA s1.term) (hM.form.seven hk) h3.1 (by omega) (by rw [show tmL s1.log m.idx = m.lt from h3.2, d])⟩
      exact ⟨hlid g hI, ⟨by have := hN.snap; omega, (hcm.to hsn hh).mono fun _ _ => trivial, fun _ => hcm.to hsn hh⟩, m.idx, by omega, hh, .inl rfl, fun j h1 h2 => by omega⟩
    · refine h1.send _ fun g hI x hx => ?_
      obtain rfl := List.mem_singleton.1 hx
      exact re_ok (.inr (.inr rfl)) hT1 hi hI.at_.id (Good.msg hI hm) hd no (fun _ h => by simp at h) (fun _ _ => .inl (by omega)) (fun _ => Nat.le_refl _)
theorem Good.appendReply (hG : Good n nd i net g0 s ms) (hb : c.batch ≤ 16) (hn : c.n = n) (h5 : n ≤ 5) (hm : m ∈ net) (hd : m.dst = i) (hk : m.kind = 6) (ht : m.term = s.term) (hle : s.role = 4 → m.rej = false → m.idx ≤ s.fin) : Good n nd i net g0 (appendReply c m s).1 (ms ++ (appendReply c m s).2) := by
  unfold Rs.appendReply
  split
  · rw [List.append_nil]; exact hG
  · rename_i hne
    have h4 : s.role = 4 := Classical.byContradiction hne
    obtain ⟨g1, hI1⟩ := hG.some
    have hM1 := Good.msg hI1 hm
    have hsrc : m.src ≠ i := by rw [← hd]; exact hM1.form.ne
    have hid := hI1.at_.id
    have hpo : m.src ∈ others c s.id := mem_others.2 ⟨by rw [hn]; exact hM1.rng.1, by rw [hid]; exact hsrc⟩
    have hnx := fun p hp => ((hI1.at_.lead h4).2.2.2 p hp).2
    have main : Good n nd i net g0 (learns c m s).1 (ms ++ (learns c m s).2) ∧ (learns c m s).1.role = 4 ∧ (learns c m s).1.id = s.id := by
      unfold learns
      simp only
      have h1 : Good n nd i net g0 { s with hd := put s.hd m.src } ms := hG.soft ⟨rfl, rfl, rfl, rfl, rfl, rfl, .inl rfl, rfl, rfl, .inl rfl⟩
      have turn : ∀ v w, (∀ g, Inv n (setN nd i s) (net ++ ms) g → Claim g s.term m.src v) → v < w → w ≤ s.log.length + 1 → Good n nd i net g0 { s with hd := put s.hd m.src, mt := upd s.mt m.src v, nx := upd s.nx m.src w } ms := fun v w hv hvw hw => by
        refine hG.node rfl (Nat.le_refl _) (if_neg (Nat.lt_irrefl _)).symm fun g hI => ?_
        have hN := hI.at_
        refine ⟨fun _ _ _ x => x, hN.logA, hN.logT, hN.snap, hN.comm, hN.tell, fun _ => ⟨h4, rfl, rfl, fun p hp => ?_⟩, fun h => absurd (show s.role = 3 from h) (by omega)⟩
        show Claim g s.term p (upd s.mt m.src v p) ∧ upd s.mt m.src v p < upd s.nx m.src w p ∧ upd s.nx m.src w p ≤ s.log.length + 1
        unfold upd
        by_cases hx : p = m.src
        · rw [if_pos hx, if_pos hx, hx]; exact ⟨hv g hI, hvw, hw⟩
        · rw [if_neg hx, if_neg hx]; exact (hN.lead h4).2.2.2 p hp
      have hupd : ∀ f : Nat → Nat, upd f m.src (f m.src) = f := fun f => by
        funext q
        unfold upd
        split
        · rename_i h; rw [h]
        · rfl
      have one : ∀ (s' : Nd), s'.role = 4 → s'.id = s.id → Good n nd i net g0 s' ms → Good n nd i net g0 s' (ms ++ [app c s' m.src]) := fun s' hr hid' hg => hg.app1 hb hn h5 hr (by rw [hid']; exact hpo)
      split
      · split
        · have := turn (s.mt m.src) (min (max (s.mt m.src) m.hint + 1) (s.fin + 1)) (fun g hI => ((hI.at_.lead h4).2.2.2 _ hsrc).1) (by have := hnx m.src hsrc; show s.mt m.src < min (max (s.mt m.src) m.hint + 1) (s.log.length + 1); omega) (Nat.min_le_right ..)
          rw [hupd] at this
          exact ⟨one { s with hd := put s.hd m.src, nx := upd s.nx m.src (min (max (s.mt m.src) m.hint + 1) (s.fin + 1)) } h4 rfl this, h4, rfl⟩
        · rw [List.append_nil]; exact ⟨h1, h4, rfl⟩
      · split
        · rename_i hr _
          have h2 := turn m.idx (m.idx + 1) (fun g hI => by
              have := (Good.msg hI hm).took hk (by simpa using hr)
              rw [ht] at this; exact this) (Nat.lt_succ_self _) (Nat.succ_le_succ (hle h4 (by simpa using hr)))
          have h3 := h2.count (c := c) hn h4
          split
          · exact ⟨h3.apps hb hn h5 h4, h4, rfl⟩
          · split
            · exact ⟨one _ h4 rfl h3, h4, rfl⟩
            · rw [List.append_nil]; exact ⟨h3, h4, rfl⟩
        · rw [List.append_nil]; exact ⟨h1, h4, rfl⟩
    obtain ⟨a, b, d⟩ := main
    simp only
    split
    · rw [← List.append_assoc]
      exact a.over hn b (by rw [d]; exact hpo)
    · exact a
theorem Good.takeOver (hG : Good n nd i net g0 s ms) (hb : c.batch ≤ 16) (hn : c.n = n) (h5 : n ≤ 5) : Good n nd i net g0 (takeOver c draw m s).1 (ms ++ (takeOver c draw m s).2) := by
  unfold Rs.takeOver
  split
  · exact hG.stand hb hn h5 1
  · rw [List.append_nil]; exact hG
theorem Good.message (hG : Good n nd i net g0 s ms) (hb : c.batch ≤ 16) (hn : c.n = n) (h5 : n ≤ 5) (hm : m ∈ net) (hd : m.dst = i) (hw : m.kind = 6 → m.term = s.term → s.role = 4 → m.rej = false → m.idx ≤ s.fin) : Good n nd i net g0 (message c draw m s).1 (ms ++ (message c draw m s).2) := by
  have kinds : ∀ s', Good n nd i net g0 s' ms → (3 ≤ m.kind → m.term = s'.term) → (m.kind = 6 → s'.role = 4 → m.rej = false → m.idx ≤ s'.fin) → Good n nd i net g0 (kinds c draw m s').1 (ms ++ (kinds c draw m s').2) := fun s' hg ht hw => by
    unfold Rs.kinds
    split
    · exact hg.preVote hm hd
    · exact hg.preReply hb hn h5
    · exact hg.vote hm hd (by assumption) (ht (by omega))
    · exact hg.voteReply hb hn h5 hm hd (by assumption) (ht (by omega))
    · exact hg.append hm hd (by assumption) (ht (by omega))
    · exact hg.appendReply hb hn h5 hm hd (by assumption) (ht (by omega)) (hw (by assumption))
    · exact hg.snapshot hm hd (by assumption) (ht (by omega))
    · exact hg.takeOver hb hn h5
    · rw [List.append_nil]; exact hg
  unfold Rs.message
  split
  · rw [List.append_nil]; exact hG
  · split
    · rename_i h1 h2
      exact kinds _ (hG.follow _ _) (fun _ => by show m.term = max s.term m.term; omega) fun _ h => absurd (show (1 : Nat) = 4 from h) (by decide)
    · split
      · rename_i h1 h2 h3
        exact hG.old hm hd h3
      · rename_i h1 h2 h3
        have he : 3 ≤ m.kind → m.term = s.term := fun hk => Classical.byContradiction fun hne => h2 ⟨by omega, by omega, .inl (by omega)⟩
        exact kinds _ hG he fun hk => hw hk (he (by omega))
end
end Go.Proofs.YtocogcgnahbpkaaGreat.Rs
namespace Go.Proofs.YtocogcgnahbpkaaGreat.Rs
open Rf (Ent Msg Cfg tmL Maj upTo nodup_le)
def goesP : Nat → List Ent → Nat → Prop
  | _, [], _ => True
  | t, e :: es, T => max t 1 ≤ e.term ∧ e.term ≤ T ∧ goesP e.term es T
theorem goesP_of {g : Gh} (hT : ∀ t k, tmL (g.llog t) k ≤ t) {L : List Ent} {T : Nat} (hA : Agree g L) (hLT : ∀ k, tmL L k ≤ T) (es : List Ent) : ∀ j t, j + es.length ≤ L.length → es = (L.drop j).take es.length → t ≤ tmL L j ∨ t = 0 → goesP t es T := by
  induction es with
  | nil => intros; exact trivial
  | cons e es ih =>
    intro j t h1 h2 h3
    rw [List.length_cons] at h1
    have hj : j < L.length := by omega
    have hd : L.drop j = L[j] :: L.drop (j + 1) := (List.drop_eq_getElem_cons hj)
    have he : e = L[j] ∧ es = (L.drop (j + 1)).take es.length := by
      rw [hd, List.length_cons, List.take_succ_cons] at h2
      injection h2 with a b
      exact ⟨a, b⟩
    have hLt : tmL L (j + 1) = e.term := by
      unfold tmL
      rw [if_neg (by omega), show j + 1 - 1 = j from rfl, List.getElem?_eq_getElem hj, he.1]; rfl
    have h4 : tmL L j ≤ tmL L (j + 1) := hA.mono hT (Nat.le_succ j) hj
    have h5 : 1 ≤ tmL L (j + 1) := hA.pos (Nat.succ_le_succ (Nat.zero_le _)) hj
    have h6 := hLT (j + 1)
    rw [hLt] at h4 h5 h6
    exact ⟨by omega, h6, ih (j + 1) e.term (by omega) he.2 (.inl (by rw [hLt]; exact Nat.le_refl _))⟩
section
variable {n : Nat} {nd nd' : Nat → Nd} {g g' g0 : Gh} {net : List Msg} {i : Nat} {s s' : Nd} {ms ms' : List Msg} {c : Cfg} {draw : Int} {m : Msg}
theorem Inv.goes (h : Inv n nd net g) (hm : m ∈ net) : goesP m.lt m.es m.term := by
  have hM := (h.msgs m hm).1
  by_cases hk : m.kind = 5
  · obtain ⟨_, b, d, f, _⟩ := hM.app (.inl hk)
    exact goesP_of h.gh.llT (h.gh.llA m.term) (h.gh.llT m.term) m.es m.idx m.lt b f (.inl (by rw [d]; exact Nat.le_refl _))
  · rw [hM.form.es hk]; exact trivial
theorem Inv.right5 (h : Inv n nd net g) (hm : m ∈ net) (hk : m.kind = 5 ∨ m.kind = 7) : ¬ (m.term = (nd m.dst).term ∧ (nd m.dst).role = 4) := by
  have hM := (h.msgs m hm).1
  refine fun ⟨x, y⟩ => ?_
  have := ((h.nds m.dst).lead y).1
  rw [← x, (hM.app hk).1] at this
  exact hM.form.ne this
def KnownOK (n : Nat) (tm : Nat → Nat) (g : Gh) (j : Nat) (e : Ent) (u : Nat) : Prop := 1 ≤ j ∧ ∃ t0 c', (t0 ≤ u ∨ Late n tm g u t0) ∧ j ≤ c' ∧ Comm n g t0 c' ∧ (g.llog t0)[j - 1]? = some e
theorem getElem?_of_take {l l' : List Ent} {c j : Nat} (h : l.take c = l'.take c) (h1 : 1 ≤ j) (hj : j ≤ c) : l[j - 1]? = l'[j - 1]? := by
  have k : ∀ l : List Ent, l[j - 1]? = (l.take c)[j - 1]? := fun l => by rw [List.getElem?_take, if_pos (by omega)]
  rw [k l, k l', h]
theorem KnownOK.ext (e : Ext nd nd' g g') {j u : Nat} {x : Ent} (h : KnownOK n (fun q => (nd q).term) g j x u) : KnownOK n (fun q => (nd' q).term) g' j x u := by
  obtain ⟨h1, t0, c', a, b, d, f⟩ := h
  exact ⟨h1, t0, c', a.imp (fun x => x) e.late, b, e.comm d, by rw [getElem?_of_take (e.llog t0 c' d.len).2 h1 b]; exact f⟩
theorem Inv.complete (h : Inv n nd net g) {j u : Nat} {x : Ent} (hk : KnownOK n (fun q => (nd q).term) g j x u) (hr : (nd i).role = 4) (hu : u < (nd i).term) : (nd i).log[j - 1]? = some x := by
  obtain ⟨h1, t0, c', a, b, d, f⟩ := hk
  have hN := h.nds i
  have hl := hN.lead hr
  have hi := (hN.rng (by omega)).1
  have hne : g.lid (nd i).term ≠ 0 := by rw [hl.1]; omega
  rcases Nat.lt_trichotomy t0 (nd i).term with y | y | y
  · have := h.gh.comp t0 (nd i).term c' y hne (d.live h.gh)
    rw [hl.2.1] at this
    rw [getElem?_of_take this.2 h1 b]; exact f
  · rw [y, hl.2.1] at f; exact f
  · exfalso
    rcases a with a | ⟨R, hR, hr'⟩
    · omega
    · obtain ⟨Q, hQ, hq⟩ := (h.gh.llQ _ hne).2.2
      obtain ⟨x, x1, x2⟩ := hQ.meet hR
      have := (hr' x x2).2 (nd i).term i hu y (by omega) (by rw [hq x x1]; exact hl.1)
      exact Nat.lt_irrefl _ this
theorem Inv.known (h : Inv n nd net g) {j u : Nat} {x : Ent} (hk : KnownOK n (fun q => (nd q).term) g j x u) (hj : j ≤ (nd i).commit) : (nd i).log[j - 1]? = some x := by
  obtain ⟨h1, t0, c', _, b, d, f⟩ := hk
  rcases (h.nds i).comm.2 with h0 | ⟨t1, c1, x1, y1, z1, _⟩
  · omega
  · rw [getElem?_of_take z1 h1 hj]
    rcases Nat.lt_trichotomy t0 t1 with u' | u' | u'
    · have := h.gh.comp t0 t1 c' u' (y1.lid h.gh) (d.live h.gh)
      rw [getElem?_of_take this.2 h1 b]; exact f
    · subst u'; exact f
    · have := h.gh.comp t1 t0 c1 u' (d.lid h.gh) (y1.live h.gh)
      rw [← getElem?_of_take this.2 h1 (by omega)]; exact f
theorem Inv.knows (h : Inv n nd net g) {j : Nat} {x : Ent} (h1 : 1 ≤ j) (hj : j ≤ (nd i).commit) (hs : (nd i).snap < (nd i).commit) (hx : (nd i).log[j - 1]? = some x) : KnownOK n (fun q => (nd q).term) g j x (nd i).term := by
  rcases ((h.nds i).tell hs).2 with h0 | ⟨t1, c1, x1, y1, z1, w1⟩
  · omega
  · exact ⟨h1, t1, c1, w1, by omega, y1, by rw [← getElem?_of_take z1 h1 hj]; exact hx⟩
theorem Inv.oneVote (h : Inv n nd net g) {net' : List Msg} (h' : Inv n nd' net' g') (e : Ext nd nd' g g') (ht : (nd' i).term = (nd i).term) (hv : (nd i).vote ≠ 0) : (nd' i).vote = (nd i).vote := by
  rw [← (h'.nds i).voteN, ht, e.voted _ _ (by rw [(h.nds i).voteN]; exact hv), (h.nds i).voteN]
theorem countFrom_ge (c : Cfg) (s : Nd) (k : Nat) : s.commit ≤ countFrom c s k := by
  rcases countFrom_cases c s k with h | ⟨j, h, _, _, _, h'⟩ <;> omega
theorem count_commit {k : Nat} (h : k ≤ s.commit) : k ≤ (count c s).commit := Nat.le_trans h (countFrom_ge c s _)
theorem lead_commit {k : Nat} (h : k ≤ s.commit) : k ≤ (lead c s).1.commit := by
  unfold lead
  simp only
  split <;> exact count_commit h
theorem stand_commit {k h' : Nat} (h : k ≤ s.commit) : k ≤ (stand c draw h' s).1.commit := by
  unfold stand
  simp only
  split
  · exact lead_commit h
  · exact h
theorem begin_commit {k : Nat} (h : k ≤ s.commit) : k ≤ (begin_ c draw s).1.commit := by
  unfold begin_
  simp only
  split
  · exact h
  · split
    · exact stand_commit h
    · exact h
theorem tick_commit : s.commit ≤ (tick c draw s).1.commit := by
  unfold tick
  simp only
  split
  · split
    · exact begin_commit (Nat.le_refl _)
    · exact Nat.le_refl _
  · split
    · exact Nat.le_refl _
    · by_cases he : c.most ≤ s.elapsed + 1
      · simp only [if_pos he]
        split <;> exact Nat.le_refl _
      · simp only [if_neg he]
        split <;> exact Nat.le_refl _
theorem propose_commit {l : List (List Int)} : s.commit ≤ (propose c l s).1.commit := count_commit (Nat.le_refl _)
theorem kinds_commit : s.commit ≤ (kinds c draw m s).1.commit := by
  unfold kinds
  split
  · unfold preVote; split <;> exact Nat.le_refl _
  · unfold preReply
    split
    · exact Nat.le_refl _
    · simp only
      split
      · exact stand_commit (Nat.le_refl _)
      · exact Nat.le_refl _
  · unfold vote; split <;> exact Nat.le_refl _
  · unfold voteReply
    split
    · exact Nat.le_refl _
    · split
      · simp only
        split
        · exact lead_commit (Nat.le_refl _)
        · exact Nat.le_refl _
      · simp only
        have : s.commit ≤ (if m.src ∈ s.gr then s else { s with rf := put s.rf m.src }).commit := by split <;> exact Nat.le_refl _
        generalize (if m.src ∈ s.gr then s else { s with rf := put s.rf m.src }) = s1 at this ⊢
        split <;> exact this
  · unfold append
    simp only
    split
    · exact Nat.le_refl _
    · split
      · exact Nat.le_refl _
      · split
        · exact Nat.le_refl _
        · exact Nat.le_max_left ..
  · unfold appendReply
    split
    · exact Nat.le_refl _
    · show s.commit ≤ (learns c m s).1.commit
      unfold learns
      simp only
      split
      · split <;> exact Nat.le_refl _
      · split
        · have : s.commit ≤ (count c { s with hd := put s.hd m.src, mt := upd s.mt m.src m.idx, nx := upd s.nx m.src (m.idx + 1) }).commit := count_commit (Nat.le_refl _)
          split
          · exact this
          · split <;> exact this
        · exact Nat.le_refl _
  · unfold snapshot
    simp only
    split
    · exact Nat.le_refl _
    · rename_i h
      split
      · exact Nat.le_of_not_le h
      · exact Nat.le_refl _
  · unfold takeOver
    split
    · exact stand_commit (Nat.le_refl _)
    · exact Nat.le_refl _
  · exact Nat.le_refl _
theorem message_commit : s.commit ≤ (message c draw m s).1.commit := by
  unfold message
  split
  · exact Nat.le_refl _
  · split
    · exact Nat.le_trans (show s.commit ≤ (follow c draw m.term (if m.kind = 5 ∨ m.kind = 7 then m.src else 0) s).commit from Nat.le_refl _) kinds_commit
    · split
      · exact Nat.le_refl _
      · exact kinds_commit
end
end Go.Proofs.YtocogcgnahbpkaaGreat.Rs
