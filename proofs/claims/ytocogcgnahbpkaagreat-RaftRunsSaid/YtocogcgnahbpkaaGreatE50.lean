/-
  A part of the proof of what E53 says at its head.
-/
import Derived.Test.YtocogcgnahbpkaaGreatE49
namespace Go.Proofs.YtocogcgnahbpkaaGreat.Rs
open Rf (Ent Msg Cfg tmL Maj upTo nodup_le)
section
variable {n : Nat} {nd nd' : Nat → Nd} {g g' g0 : Gh} {net : List Msg} {i : Nat} {s s' : Nd} {ms ms' : List Msg} {c : Cfg} {draw : Int} {m : Msg} {A k : Nat}
def Gh.more (g : Gh) (k : Nat) : Gh := { g with pn := g.pn + k }
theorem comm_more {t j : Nat} (h : Comm n g t j) : Comm n (g.more k) t j := ⟨h.t1, h.i1, h.at_, h.acks⟩
theorem commT_more {P : Nat → Prop} {l : List Ent} {j : Nat} (h : CommT n g P l j) : CommT n (g.more k) P l j := ⟨h.1, h.2.imp (fun x => x) fun ⟨t0, c', a, b, d⟩ => ⟨t0, c', a, comm_more b, d⟩⟩
theorem live_more {t j : Nat} (h : Live (g.more k) t j) : Live g t j := h.to rfl rfl
theorem Inv.more (h : Inv n nd net g) (k : Nat) : Inv n nd net (g.more k) := by
  obtain ⟨hG, hN, hM⟩ := h
  refine ⟨⟨hG.llT, hG.llA, hG.llQ, hG.llN, hG.vF, hG.votes, fun t t' i a b d => hG.comp t t' i a b (live_more d), hG.compF, fun t t' q i a b d e => hG.vcomp t t' q i a b d (live_more e), hG.ackL, hG.cert, fun t => ?_⟩, fun i => ?_, fun m hm => ?_⟩
  · have := hG.len t
    show (g.llog t).length ≤ t + 16 * (g.pn + k)
    omega
  · have h := hN i
    exact ⟨h.id, h.rng, h.voteN, fun t k a b => h.ncomp t k a (live_more b), h.logA, h.logT, h.snap, commT_more h.comm, fun x => commT_more (h.tell x), h.lead, fun x => by
      obtain ⟨a, b, d, e⟩ := h.cand x
      exact ⟨a, b, d, fun t k u v w => e t k u (live_more v) w⟩⟩
  · obtain ⟨a, b⟩ := hM m hm
    exact ⟨⟨a.form, a.rng, a.vote, a.grant, fun x => by
      obtain ⟨p, q, r, u, v⟩ := a.app x
      exact ⟨p, q, r, u, commT_more v⟩, a.snap, a.took⟩, b⟩
theorem KnownOK.more {tm : Nat → Nat} {j u : Nat} {x : Ent} (h : KnownOK n tm g j x u) (k : Nat) : KnownOK n tm (g.more k) j x u := by
  obtain ⟨h1, t0, c', a, b, d, f⟩ := h
  exact ⟨h1, t0, c', a, b, comm_more d, f⟩
theorem Inv.fin (h : Inv n nd net g) (i : Nat) : (nd i).log.length ≤ (nd i).term + 16 * g.pn := by
  have hN := h.nds i
  rcases Nat.eq_zero_or_pos (nd i).log.length with h0 | h0
  · omega
  · obtain ⟨_, a, b, _⟩ := hN.logA _ h0 (Nat.le_refl _)
    have h1 := h.gh.len (tmL (nd i).log (nd i).log.length)
    have h2 := hN.logT (nd i).log.length
    omega
def Tidy (c : Cfg) (l : List Nat) : Prop := l.Nodup ∧ ∀ p, p ∈ l → 1 ≤ p ∧ p ≤ c.n
theorem Tidy.nil : Tidy c [] := ⟨by simp, by simp⟩
theorem Tidy.put {l : List Nat} {p : Nat} (h : Tidy c l) (hp : 1 ≤ p ∧ p ≤ c.n) : Tidy c (put l p) := ⟨nodup_put h.1 p, fun q hq => by
  rcases mem_put.1 hq with x | rfl
  · exact h.2 q x
  · exact hp⟩
theorem Tidy.filter {l : List Nat} (h : Tidy c l) (P : Nat → Bool) : Tidy c (l.filter P) := ⟨h.1.filter _, fun q hq => h.2 q (List.mem_filter.1 hq).1⟩
theorem Tidy.one {p : Nat} (hp : 1 ≤ p ∧ p ≤ c.n) : Tidy c [p] := ⟨by simp, fun q hq => by obtain rfl := List.mem_singleton.1 hq; exact hp⟩
theorem Tidy.le {l : List Nat} (h : Tidy c l) : l.length ≤ c.n := by
  have := nodup_le (R := List.range' 1 c.n) h.1 fun q hq => by
    rw [List.mem_range'_1]; have := h.2 q hq; omega
  simpa using this
structure CfgOK (c : Cfg) : Prop where
  n : 1 ≤ c.n ∧ c.n ≤ 5
  least : 2 ≤ c.least ∧ c.least ≤ 12
  most : c.least + 3 ≤ c.most ∧ c.most ≤ c.least + 18
  beat : 1 ≤ c.beat ∧ c.beat < c.least
  batch : 1 ≤ c.batch ∧ c.batch ≤ 16
structure Soft (c : Cfg) (A : Nat) (s : Nd) : Prop where
  id : 1 ≤ s.id ∧ s.id ≤ c.n
  role : 1 ≤ s.role ∧ s.role ≤ 4
  lead : s.role = 4 → s.leader = s.id
  time : c.least ≤ s.timeout ∧ s.timeout ≤ c.most
  el : s.elapsed ≤ A
  beat : s.beat ≤ A
  heir : s.heir ≠ 0 → s.role = 4 ∧ s.heir ∈ others c s.id ∧ s.term < A
  term : s.term ≤ A
  pre : s.role = 2 → s.term < A
  gr : Tidy c s.gr
  rf : Tidy c s.rf
  hd : Tidy c s.hd ∧ s.id ∉ s.hd
theorem rnd_le (hc : CfgOK c) (draw : Int) : c.least ≤ rnd c draw ∧ rnd c draw ≤ c.most := by
  unfold rnd
  have h1 := hc.most
  have h2 := Int.emod_nonneg draw (show (c.most : Int) - c.least + 1 ≠ 0 by omega)
  have h3 := Int.emod_lt_of_pos draw (show (0 : Int) < (c.most : Int) - c.least + 1 by omega)
  omega
theorem Soft.count (h : Soft c A s) : Soft c A (count c s) := ⟨h.id, h.role, h.lead, h.time, h.el, h.beat, h.heir, h.term, h.pre, h.gr, h.rf, h.hd⟩
theorem Soft.push (h : Soft c A s) (l : List Ent) : Soft c A { s with log := l } := ⟨h.id, h.role, h.lead, h.time, h.el, h.beat, h.heir, h.term, h.pre, h.gr, h.rf, h.hd⟩
theorem Soft.led (h : Soft c A s) : Soft c A (Rs.lead c s).1 := by
  unfold Rs.lead
  simp only
  have h1 : Soft c A { s with role := 4, leader := s.id, heir := 0, elapsed := 0, beat := 0, mt := fun _ => 0, nx := fun _ => s.fin + 1, hd := [] } :=
    ⟨h.id, by show 1 ≤ 4 ∧ 4 ≤ 4; decide, fun _ => rfl, h.time, Nat.zero_le _, Nat.zero_le _, fun x => absurd rfl x, h.term, fun x => no x, h.gr, h.rf, .nil, by simp⟩
  split
  · exact (h1.push _).count
  · exact h1.count
theorem Soft.stand (hc : CfgOK c) (h : Soft c A s) (hA : s.term < A) (hint : Nat) : Soft c A (stand c draw hint s).1 := by
  have hr := rnd_le hc draw
  unfold Rs.stand
  simp only
  have h1 : Soft c A (rest c draw { s with term := s.term + 1, vote := s.id, role := 3, leader := 0, heir := 0, gr := [s.id], rf := [] }) :=
    ⟨h.id, by show 1 ≤ 3 ∧ 3 ≤ 4; decide, fun x => no x, hr, Nat.zero_le _, h.beat, fun x => absurd rfl x, hA, fun x => no x, .one h.id, .nil, h.hd⟩
  split
  · exact h1.led
  · exact h1
theorem Soft.follow (hc : CfgOK c) (h : Soft c A s) {t l : Nat} (ht : t ≤ A) : Soft c A (follow c draw t l s) := by
  have hr := rnd_le hc draw
  exact ⟨h.id, by show 1 ≤ 1 ∧ 1 ≤ 4; decide, fun x => no x, hr, Nat.zero_le _, h.beat, fun x => absurd rfl x, Nat.max_le.2 ⟨h.term, ht⟩, fun x => no x, h.gr, h.rf, h.hd⟩
theorem Soft.more (h : Soft c A s) : Soft c (A + 1) s := ⟨h.id, h.role, h.lead, h.time, Nat.le_succ_of_le h.el, Nat.le_succ_of_le h.beat, fun x => ⟨(h.heir x).1, (h.heir x).2.1, Nat.lt_succ_of_lt (h.heir x).2.2⟩, Nat.le_succ_of_le h.term, fun x => Nat.lt_succ_of_lt (h.pre x), h.gr, h.rf, h.hd⟩
theorem Soft.begin_ (hc : CfgOK c) (h : Soft c A s) (hlt : s.term < A) : Soft c A (begin_ c draw s).1 := by
  have hr := rnd_le hc draw
  unfold Rs.begin_
  simp only
  split
  · exact ⟨h.id, h.role, h.lead, hr, Nat.zero_le _, h.beat, h.heir, h.term, h.pre, h.gr, h.rf, h.hd⟩
  · have h1 : Soft c A { (rest c draw s) with role := 2, leader := 0, heir := 0, gr := [(rest c draw s).id] } :=
      ⟨h.id, by show 1 ≤ 2 ∧ 2 ≤ 4; decide, fun x => no x, hr, Nat.zero_le _, h.beat, fun x => absurd rfl x, h.term, fun _ => hlt, .one h.id, h.rf, h.hd⟩
    split
    · exact h1.stand hc hlt 0
    · exact h1
theorem Soft.tick (hc : CfgOK c) (h : Soft c A s) : Soft c (A + 1) (tick c draw s).1 := by
  have e1 : s.elapsed + 1 ≤ A + 1 := Nat.succ_le_succ h.el
  have e2 : s.beat + 1 ≤ A + 1 := Nat.succ_le_succ h.beat
  have k := h.more
  unfold Rs.tick
  simp only
  by_cases h4 : s.role ≠ 4
  · rw [if_pos h4]
    split
    · exact Soft.begin_ (s := { s with elapsed := s.elapsed + 1 }) hc ⟨k.id, k.role, k.lead, k.time, e1, k.beat, k.heir, k.term, k.pre, k.gr, k.rf, k.hd⟩ (Nat.lt_succ_of_le h.term)
    · exact ⟨k.id, k.role, k.lead, k.time, e1, k.beat, k.heir, k.term, k.pre, k.gr, k.rf, k.hd⟩
  · rw [if_neg h4]
    split
    · exact Soft.follow hc (s := { s with elapsed := 0, beat := s.beat + 1 }) ⟨k.id, k.role, k.lead, k.time, Nat.zero_le _, e2, k.heir, k.term, k.pre, k.gr, k.rf, k.hd⟩ k.term
    · have h1 : Soft c (A + 1) (if c.most ≤ s.elapsed + 1 then { s with elapsed := 0, beat := s.beat + 1, heir := 0, hd := [] } else { s with elapsed := s.elapsed + 1, beat := s.beat + 1 }) := by
        split
        · exact ⟨k.id, k.role, k.lead, k.time, Nat.zero_le _, e2, fun x => absurd rfl x, k.term, k.pre, k.gr, k.rf, .nil, by simp⟩
        · exact ⟨k.id, k.role, k.lead, k.time, e1, e2, k.heir, k.term, k.pre, k.gr, k.rf, k.hd⟩
      generalize (if c.most ≤ s.elapsed + 1 then { s with elapsed := 0, beat := s.beat + 1, heir := 0, hd := [] } else { s with elapsed := s.elapsed + 1, beat := s.beat + 1 } : Nd) = s1 at h1 ⊢
      split
      · exact ⟨h1.id, h1.role, h1.lead, h1.time, h1.el, Nat.zero_le _, h1.heir, h1.term, h1.pre, h1.gr, h1.rf, h1.hd⟩
      · exact h1
theorem Soft.propose (h : Soft c A s) (l : List (List Int)) : Soft c A (propose c l s).1 := (h.push _).count
theorem Soft.far (h : Soft c A s) (p : Nat) : Soft c A (far p s) := by
  unfold Rs.far
  split
  · exact ⟨h.id, h.role, h.lead, h.time, h.el, h.beat, h.heir, h.term, h.pre, h.gr, h.rf, h.hd.1.filter _, fun x => h.hd.2 (List.mem_filter.1 x).1⟩
  · exact h
theorem Soft.compact (h : Soft c A s) (k : Nat) : Soft c A (compact k s) := ⟨h.id, h.role, h.lead, h.time, h.el, h.beat, h.heir, h.term, h.pre, h.gr, h.rf, h.hd⟩
theorem Soft.installed (h : Soft c A s) (L : List Ent) : Soft c A (installed L s) := ⟨h.id, h.role, h.lead, h.time, h.el, h.beat, h.heir, h.term, h.pre, h.gr, h.rf, h.hd⟩
theorem Soft.handOver (h : Soft c A s) (h4 : s.role = 4) {p : Nat} (hp : p ∈ others c s.id) : Soft c (A + 1) (handOver c p s).1 := by
  have h' := h.more
  exact ⟨h.id, h.role, h.lead, h.time, Nat.zero_le _, h'.beat, fun _ => ⟨h4, hp, Nat.lt_succ_of_le h.term⟩, h'.term, h'.pre, h.gr, h.rf, h.hd⟩
theorem Soft.kinds (hc : CfgOK c) (h : Soft c A s) (hs : m.src ∈ others c s.id) (ht : m.kind = 5 ∨ m.kind = 7 → m.term ≤ A) (h8 : m.kind = 8 → s.term < A) : Soft c A (kinds c draw m s).1 := by
  have hr := rnd_le hc draw
  obtain ⟨hs1, hs2⟩ := mem_others.1 hs
  unfold Rs.kinds
  split
  · unfold preVote; split <;> exact h
  · unfold preReply
    split
    · exact h
    · rename_i hne
      have h2 : s.role = 2 := Classical.byContradiction fun h => hne (.inl h)
      have h1 : Soft c A { s with gr := Rs.put s.gr m.src } := ⟨h.id, h.role, h.lead, h.time, h.el, h.beat, h.heir, h.term, h.pre, h.gr.put hs1, h.rf, h.hd⟩
      simp only
      split
      · exact h1.stand hc (h.pre h2) 0
      · exact h1
  · unfold vote
    split
    · exact ⟨h.id, h.role, h.lead, hr, Nat.zero_le _, h.beat, h.heir, h.term, h.pre, h.gr, h.rf, h.hd⟩
    · exact h
  · unfold voteReply
    split
    · exact h
    · split
      · have h1 : Soft c A { s with rf := s.rf.filter (· ≠ m.src), gr := Rs.put s.gr m.src } := ⟨h.id, h.role, h.lead, h.time, h.el, h.beat, h.heir, h.term, h.pre, h.gr.put hs1, h.rf.filter _, h.hd⟩
        simp only
        split
        · exact h1.led
        · exact h1
      · simp only
        have h1 : Soft c A (if m.src ∈ s.gr then s else { s with rf := Rs.put s.rf m.src }) := by
          split
          · exact h
          · exact ⟨h.id, h.role, h.lead, h.time, h.el, h.beat, h.heir, h.term, h.pre, h.gr, h.rf.put hs1, h.hd⟩
        generalize (if m.src ∈ s.gr then s else { s with rf := Rs.put s.rf m.src }) = s1 at h1 ⊢
        split
        · exact h1.follow hc h1.term
        · exact h1
  · rename_i hk
    have hf := h.follow (draw := draw) (l := m.src) hc (ht (.inl hk))
    unfold append
    simp only
    split
    · exact hf
    · split
      · exact hf
      · split
        · exact hf
        · exact ⟨hf.id, hf.role, hf.lead, hf.time, hf.el, hf.beat, hf.heir, hf.term, hf.pre, hf.gr, hf.rf, hf.hd⟩
  · unfold appendReply
    split
    · exact h
    · show Soft c A (learns c m s).1
      have hh : Tidy c (Rs.put s.hd m.src) ∧ s.id ∉ Rs.put s.hd m.src := ⟨h.hd.1.put hs1, fun x => (mem_put.1 x).elim h.hd.2 fun e => hs2 e.symm⟩
      have k : ∀ s1 : Nd, s1.id = s.id → s1.role = s.role → s1.leader = s.leader → s1.timeout = s.timeout → s1.elapsed = s.elapsed → s1.beat = s.beat → s1.heir = s.heir → s1.term = s.term → s1.gr = s.gr → s1.rf = s.rf → s1.hd = Rs.put s.hd m.src → Soft c A s1 := fun s1 a b d e f x y z u v w =>
        ⟨by rw [a]; exact h.id, by rw [b]; exact h.role, by rw [b, d, a]; exact h.lead, by rw [e]; exact h.time, by rw [f]; exact h.el, by rw [x]; exact h.beat, by rw [y, b, a, z]; exact h.heir, by rw [z]; exact h.term, by rw [b, z]; exact h.pre, by rw [u]; exact h.gr, by rw [v]; exact h.rf, by rw [w, a]; exact hh⟩
      unfold learns
      simp only
      split
      · split <;> exact k _ rfl rfl rfl rfl rfl rfl rfl rfl rfl rfl rfl
      · split
        · split
          · exact k _ rfl rfl rfl rfl rfl rfl rfl rfl rfl rfl rfl
          · split <;> exact k _ rfl rfl rfl rfl rfl rfl rfl rfl rfl rfl rfl
        · exact k _ rfl rfl rfl rfl rfl rfl rfl rfl rfl rfl rfl
  · rename_i hk
    have hf := h.follow (draw := draw) (l := m.src) hc (ht (.inr hk))
    unfold snapshot
    simp only
    split
    · exact hf
    · split
      · exact ⟨hf.id, hf.role, hf.lead, hf.time, hf.el, hf.beat, hf.heir, hf.term, hf.pre, hf.gr, hf.rf, hf.hd⟩
      · exact hf
  · rename_i hk
    unfold takeOver
    split
    · exact h.stand hc (h8 hk) 1
    · exact h
  · exact h
end
end Go.Proofs.YtocogcgnahbpkaaGreat.Rs
namespace Go.Proofs.YtocogcgnahbpkaaGreat.Rs
open Rf (Ent Msg Cfg tmL Maj upTo nodup_le)
section
variable {nd nd' : Nat → Nd} {g g' g0 : Gh} {net net' : List Msg} {i : Nat} {s s' : Nd} {ms ms' : List Msg} {c : Cfg} {draw : Int} {m : Msg} {A A' k : Nat}
def snp (ms : List Msg) : List Nat := (ms.filter fun m => decide (m.kind = 7)).map (·.dst)
structure Says (c : Cfg) (A id : Nat) (ms : List Msg) : Prop where
  eight : ∀ x, x ∈ ms → (x.kind = 8 → x.term < A) ∧ (x.kind = 2 → x.term ≤ A + 1)
  seven : (snp ms).Sublist (others c id)
  len : ms.length ≤ 6
theorem Says.nil {id : Nat} : Says c A id [] := ⟨fun _ h => absurd h (by simp), by simp [snp], by simp⟩
theorem Says.one {id : Nat} {x : Msg} (h : (x.kind = 8 → x.term < A) ∧ (x.kind = 2 → x.term ≤ A + 1)) (h7 : x.kind ≠ 7) : Says c A id [x] := ⟨fun y hy => by obtain rfl := List.mem_singleton.1 hy; exact h, by simp [snp, h7], by simp⟩
theorem others_len (hc : CfgOK c) (id : Nat) : (others c id).length ≤ 5 := by
  unfold others
  have := List.length_filter_le (fun x => decide (x ≠ id)) (List.range' 1 c.n)
  rw [List.length_range'] at this
  have := hc.n
  omega
theorem app_kind (c : Cfg) (s : Nd) (p : Nat) : (app c s p).kind = 5 ∨ (app c s p).kind = 7 := by
  unfold app; split
  · exact .inr rfl
  · exact .inl rfl
theorem app_dst (c : Cfg) (s : Nd) (p : Nat) : (app c s p).dst = p := by unfold app; split <;> rfl
theorem Says.app (hp : i ∈ others c s.id) : Says c A s.id [app c s i] := by
  refine ⟨fun x hx => ?_, ?_, by simp⟩
  · obtain rfl := List.mem_singleton.1 hx
    exact ⟨fun h8 => by rcases app_kind c s i with h | h <;> omega, fun h8 => by rcases app_kind c s i with h | h <;> omega⟩
  · unfold snp
    by_cases h : (Rs.app c s i).kind = 7
    · rw [List.filter_cons_of_pos (by simpa using h)]
      simp only [List.filter_nil, List.map_cons, List.map_nil, app_dst]
      exact List.singleton_sublist.2 hp
    · rw [List.filter_cons_of_neg (by simpa using h)]
      simp
theorem Says.all (hc : CfgOK c) : Says c A s.id (apps c s) := by
  refine ⟨fun x hx => ?_, ?_, ?_⟩
  · obtain ⟨p, _, rfl⟩ := List.mem_map.1 hx
    exact ⟨fun h8 => by rcases app_kind c s p with h | h <;> omega, fun h8 => by rcases app_kind c s p with h | h <;> omega⟩
  · unfold snp apps
    rw [List.filter_map, List.map_map]
    have : ((fun x : Msg => x.dst) ∘ Rs.app c s) = fun p => p := funext fun p => app_dst c s p
    rw [this, List.map_id']
    exact List.filter_sublist
  · unfold apps
    rw [List.length_map]
    have := others_len hc s.id
    omega
theorem Says.all' {s1 : Nd} {id : Nat} (hc : CfgOK c) (h : s1.id = id) : Says c A id (apps c s1) := by rw [← h]; exact .all hc
theorem Says.app' {s1 : Nd} {id : Nat} (hp : i ∈ others c id) (h : s1.id = id) : Says c A id [Rs.app c s1 i] := by rw [← h] at hp ⊢; exact .app hp
theorem Says.asks (hc : CfgOK c) {id : Nat} {f : Nat → Msg} (hf : ∀ p, (f p).kind = 1 ∨ (f p).kind = 3) : Says c A id ((others c id).map f) := by
  refine ⟨fun x hx => ?_, ?_, ?_⟩
  · obtain ⟨p, _, rfl⟩ := List.mem_map.1 hx
    have := hf p
    exact ⟨fun _ => by omega, fun _ => by omega⟩
  · unfold snp
    rw [List.filter_eq_nil_iff.2 fun x hx => by
      obtain ⟨p, _, rfl⟩ := List.mem_map.1 hx
      have := hf p
      simp; omega]
    simp
  · rw [List.length_map]
    have := others_len hc id
    omega
theorem Says.led (hc : CfgOK c) : Says c A s.id (lead c s).2 := by
  unfold lead
  simp only
  split <;> (apply Says.all'; exact hc; rfl)
theorem Says.stand (hc : CfgOK c) (hint : Nat) : Says c A s.id (stand c draw hint s).2 := by
  unfold Rs.stand
  simp only
  split
  · exact Says.led (s := rest c draw { s with term := s.term + 1, vote := s.id, role := 3, leader := 0, heir := 0, gr := [s.id], rf := [] }) hc
  · exact Says.asks hc fun _ => .inr rfl
theorem Says.begin_ (hc : CfgOK c) : Says c A s.id (begin_ c draw s).2 := by
  unfold Rs.begin_
  simp only
  split
  · exact .nil
  · split
    · exact Says.stand (s := { (rest c draw s) with role := 2, leader := 0, heir := 0, gr := [(rest c draw s).id] }) hc 0
    · exact Says.asks hc fun _ => .inl rfl
theorem Says.tick (hc : CfgOK c) : Says c A s.id (tick c draw s).2 := by
  unfold Rs.tick
  simp only
  split
  · split
    · exact Says.begin_ (s := { s with elapsed := s.elapsed + 1 }) hc
    · exact .nil
  · split
    · exact .nil
    · by_cases he : c.most ≤ s.elapsed + 1
      · simp only [if_pos he]
        split
        · exact Says.all (s := { s with elapsed := 0, heir := 0, hd := [], beat := 0 }) hc
        · exact .nil
      · simp only [if_neg he]
        split
        · exact Says.all (s := { s with elapsed := s.elapsed + 1, beat := 0 }) hc
        · exact .nil
theorem Says.propose (hc : CfgOK c) (l : List (List Int)) : Says c A s.id (Rs.propose c l s).2 := by
  unfold Rs.propose; apply Says.all'; exact hc; rfl
theorem Says.handOver (hA : s.term < A) {p : Nat} (hp : p ∈ others c s.id) : Says c A s.id (handOver c p s).2 := by
  unfold Rs.handOver
  simp only
  split
  · exact .one ⟨fun _ => hA, fun h => no h⟩ (by simp [over])
  · exact Says.app (s := { s with heir := p, elapsed := 0 }) hp
theorem learns_says (hc : CfgOK c) (hs : m.src ∈ others c s.id) : Says c A s.id (learns c m s).2 ∧ (learns c m s).2.length ≤ 5 ∧ (learns c m s).1.term = s.term ∧ (learns c m s).1.heir = s.heir := by
  have hl : ∀ s1 : Nd, (apps c s1).length ≤ 5 := fun s1 => by unfold apps; rw [List.length_map]; exact others_len hc _
  unfold learns
  simp only
  split
  · split
    · refine ⟨?_, by simp, rfl, rfl⟩
      apply Says.app' hs; rfl
    · exact ⟨.nil, by simp, rfl, rfl⟩
  · split
    · split
      · refine ⟨?_, hl _, rfl, rfl⟩
        apply Says.all' hc; rfl
      · split
        · refine ⟨?_, by simp, rfl, rfl⟩
          apply Says.app' hs; rfl
        · exact ⟨.nil, by simp, rfl, rfl⟩
    · exact ⟨.nil, by simp, rfl, rfl⟩
theorem Says.kinds (hc : CfgOK c) (hs : m.src ∈ others c s.id) (hh : s.heir ≠ 0 → s.term < A) (hm : m.term ≤ A + 1) (ht : s.term ≤ A) : Says c A s.id (kinds c draw m s).2 := by
  have h0 : m.src ≠ 0 := by have := (mem_others.1 hs).1; omega
  have re1 : ∀ (k T x h : Nat) (r : Bool) (s1 : Nd), T ≤ A + 1 → k ≠ 7 → k ≠ 8 → Says c A s.id [re s1 m k T x r h] := fun k T x h r s1 hT h7 h8 => .one ⟨fun e => absurd e h8, fun _ => hT⟩ h7
  unfold Rs.kinds
  split
  · unfold preVote; split
    · exact re1 _ _ _ _ _ _ hm (by decide) (by decide)
    · exact re1 _ _ _ _ _ _ (by omega) (by decide) (by decide)
  · unfold preReply
    split
    · exact .nil
    · simp only
      split
      · exact Says.stand (s := { s with gr := put s.gr m.src }) hc 0
      · exact .nil
  · have ht : s.term ≤ A + 1 := by omega
    unfold vote; split <;> exact re1 _ _ _ _ _ _ ht (by decide) (by decide)
  · unfold voteReply
    split
    · exact .nil
    · split
      · simp only
        split
        · exact Says.led (s := { s with rf := s.rf.filter (· ≠ m.src), gr := put s.gr m.src }) hc
        · exact .nil
      · simp only
        generalize (if m.src ∈ s.gr then s else { s with rf := put s.rf m.src }) = s1
        split <;> exact .nil
  · have ht : (follow c draw m.term m.src s).term ≤ A + 1 := by show max s.term m.term ≤ A + 1; omega
    unfold append
    simp only
    split
    · exact re1 _ _ _ _ _ _ ht (by decide) (by decide)
    · split
      · exact re1 _ _ _ _ _ _ ht (by decide) (by decide)
      · split <;> exact re1 _ _ _ _ _ _ ht (by decide) (by decide)
  · unfold appendReply
    split
    · exact .nil
    · obtain ⟨h1, h2, h3, h4⟩ := learns_says (A := A) hc hs
      show Says c A s.id (if (learns c m s).1.heir = m.src ∧ (learns c m s).1.mt m.src = (learns c m s).1.fin then (learns c m s).2 ++ [over (learns c m s).1 m.src] else (learns c m s).2)
      split
      · rename_i hx
        refine ⟨fun x hx' => ?_, ?_, by simp; omega⟩
        · rcases List.mem_append.1 hx' with y | y
          · exact h1.eight x y
          · obtain rfl := List.mem_singleton.1 y
            refine ⟨fun _ => ?_, fun h => no h⟩
            show (learns c m s).1.term < A
            rw [h3]
            exact hh (by rw [← h4, hx.1]; exact h0)
        · unfold snp
          rw [List.filter_append, List.map_append]
          have : (List.filter (fun m : Msg => decide (m.kind = 7)) [over (learns c m s).1 m.src]) = [] := by simp [over]
          rw [this, List.map_nil, List.append_nil]
          exact h1.seven
      · exact h1
  · have ht : (follow c draw m.term m.src s).term ≤ A + 1 := by show max s.term m.term ≤ A + 1; omega
    unfold snapshot
    simp only
    split
    · exact re1 _ _ _ _ _ _ ht (by decide) (by decide)
    · split <;> exact re1 _ _ _ _ _ _ ht (by decide) (by decide)
  · unfold takeOver
    split
    · exact Says.stand hc 1
    · exact .nil
  · exact .nil
theorem Says.old {id : Nat} (ht : s.term ≤ A) : Says c A id (old m s) := by
  unfold Rs.old
  split
  · exact .one ⟨fun h => no h, fun h => no h⟩ (by simp [re])
  · split
    · exact .one ⟨fun h => no h, fun _ => by show s.term ≤ A + 1; omega⟩ (by simp [re])
    · split
      · exact .one ⟨fun h => no h, fun h => no h⟩ (by simp [re])
      · exact .nil
structure Ok (c : Cfg) (A : Nat) (nd : Nat → Nd) (net : List Msg) (g : Gh) : Prop where
  inv : Inv c.n nd net g
  soft : ∀ i, 1 ≤ i → i ≤ c.n → Soft c A (nd i)
  eight : ∀ m, m ∈ net → (m.kind = 8 → m.term < A) ∧ (m.kind = 2 → m.term ≤ A + 1)
  pn : g.pn ≤ A
theorem Ok.turn (h : Ok c A nd net g) (hA : A ≤ A') (hg : g0.pn ≤ A') (hG : Good c.n nd i net g0 s' ms) (hs : Soft c A' s') (hm : Says c A' s'.id ms) (hmore : ∀ j, Soft c A (nd j) → Soft c A' (nd j)) (hn : ∀ m, m ∈ net' → m ∈ net ∨ m ∈ ms) : ∃ g', Ok c A' (setN nd i s') net' g' ∧ Ext nd (setN nd i s') g0 g' := by
  obtain ⟨_, g', hI, hE⟩ := hG
  refine ⟨g', ⟨hI.net' fun m hx => ?_, fun j h1 h2 => ?_, fun m hx => ?_, by rw [hE.pn]; exact hg⟩, hE⟩
  · have := List.mem_append.2 (hn m hx)
    exact .inl this
  · by_cases hj : j = i
    · subst hj; rw [setN_at]; exact hs
    · rw [setN_ne _ _ hj]; exact hmore j (h.soft j h1 h2)
  · rcases hn m hx with y | y
    · have := h.eight m y
      exact ⟨fun h => Nat.lt_of_lt_of_le (this.1 h) hA, fun h => Nat.le_trans (this.2 h) (Nat.succ_le_succ hA)⟩
    · exact hm.eight m y
theorem Ok.term (h : Ok c A nd net g) {m : Msg} (hm : m ∈ net) : m.term ≤ A + 1 ∧ (m.kind ≠ 1 → (m.kind ≠ 2 ∨ m.rej = true) → m.term ≤ A) := by
  have hM := h.inv.msgs m hm
  have hs := (h.soft m.src hM.1.rng.1.1 hM.1.rng.1.2).term
  obtain ⟨a, b, d⟩ := hM.2
  have hk := hM.1.form.kind
  have h2 := (h.eight m hm).2
  refine ⟨?_, fun h1 h2 => ?_⟩
  · by_cases h1 : m.kind = 1
    · have := a h1; omega
    · by_cases h3 : m.kind = 2
      · exact h2 h3
      · have := d (by omega); omega
  · rcases h2 with x | x
    · have := d (by omega); omega
    · by_cases h3 : m.kind = 2
      · have := b h3 x; omega
      · have := d (by omega); omega
theorem Ok.sub (h : Ok c A nd net g) (hn : ∀ m, m ∈ net' → m ∈ net) : Ok c A nd net' g := ⟨h.inv.net' fun m hx => .inl (hn m hx), h.soft, fun m hx => h.eight m (hn m hx), h.pn⟩
theorem Ok.more (h : Ok c A nd net g) : Ok c (A + 1) nd net (g.more 1) := ⟨h.inv.more 1, fun i a b => (h.soft i a b).more, fun m hm => ⟨fun x => Nat.lt_succ_of_lt ((h.eight m hm).1 x), fun x => Nat.le_succ_of_le ((h.eight m hm).2 x)⟩, Nat.succ_le_succ h.pn⟩
theorem Ok.fin (h : Ok c A nd net g) (hi : 1 ≤ i ∧ i ≤ c.n) : (nd i).log.length ≤ 17 * A := by
  have h1 := h.inv.fin i
  have h2 := (h.soft i hi.1 hi.2).term
  have h3 := h.pn
  omega
theorem Ok.tick (hc : CfgOK c) (h : Ok c A nd net g) (hi : 1 ≤ i ∧ i ≤ c.n) (hn : ∀ m, m ∈ net' → m ∈ net ∨ m ∈ (tick c draw (nd i)).2) : ∃ g', Ok c (A + 1) (setN nd i (tick c draw (nd i)).1) net' g' ∧ Ext nd (setN nd i (tick c draw (nd i)).1) g g' := by
  have hs := (h.soft i hi.1 hi.2).tick (draw := draw) hc
  have hG := (Good.start h.inv hi).tick (c := c) (draw := draw) hc.batch.2 rfl hc.n.2
  rw [List.nil_append] at hG
  refine h.turn (Nat.le_succ A) (Nat.le_succ_of_le h.pn) hG hs ?_ (fun j x => x.more) hn
  rw [hG.idEq]
  have := Says.tick (A := A + 1) (draw := draw) (s := nd i) hc
  rwa [(h.inv.nds i).id] at this
theorem Ok.propose (hc : CfgOK c) (h : Ok c A nd net g) (hi : 1 ≤ i ∧ i ≤ c.n) (h4 : (nd i).role = 4) (l : List (List Int)) (hl : l.length ≤ 16) (hn : ∀ m, m ∈ net' → m ∈ net ∨ m ∈ (propose c l (nd i)).2) : ∃ g', Ok c (A + 1) (setN nd i (propose c l (nd i)).1) net' g' ∧ Ext nd (setN nd i (propose c l (nd i)).1) (g.more 1) g' := by
  have hm := h.more
  have hs := (hm.soft i hi.1 hi.2).propose l
  have hf := h.inv.fin i
  have hG := (Good.start hm.inv hi).propose (c := c) hc.batch.2 rfl hc.n.2 h4 l (by show (nd i).log.length + l.length ≤ (nd i).term + 16 * (g.pn + 1); omega)
  rw [List.nil_append] at hG
  refine hm.turn (Nat.le_refl _) hm.pn hG hs ?_ (fun _ x => x) hn
  rw [hG.idEq]
  have := Says.propose (A := A + 1) (s := nd i) hc l
  rwa [(h.inv.nds i).id] at this
theorem Ok.handOver (hc : CfgOK c) (h : Ok c A nd net g) (hi : 1 ≤ i ∧ i ≤ c.n) (h4 : (nd i).role = 4) {p : Nat} (hp : p ∈ others c (nd i).id) (hn : ∀ m, m ∈ net' → m ∈ net ∨ m ∈ (handOver c p (nd i)).2) : ∃ g', Ok c (A + 1) (setN nd i (handOver c p (nd i)).1) net' g' ∧ Ext nd (setN nd i (handOver c p (nd i)).1) g g' := by
  have hs := (h.soft i hi.1 hi.2).handOver h4 hp
  have hG := (Good.start h.inv hi).handOver (c := c) hc.batch.2 rfl hc.n.2 h4 hp
  rw [List.nil_append] at hG
  refine h.turn (Nat.le_succ A) (Nat.le_succ_of_le h.pn) hG hs ?_ (fun j x => x.more) hn
  rw [hG.idEq]
  have := Says.handOver (c := c) (Nat.lt_succ_of_le (h.soft i hi.1 hi.2).term) hp
  rwa [(h.inv.nds i).id] at this
theorem Ok.still (h : Ok c A nd net g) (hG : Good c.n nd i net g s' []) (hs : Soft c A s') (hn : ∀ m, m ∈ net' → m ∈ net) : ∃ g', Ok c A (setN nd i s') net' g' ∧ Ext nd (setN nd i s') g g' :=
  h.turn (Nat.le_refl _) h.pn hG hs .nil (fun _ x => x) fun m hm => .inl (hn m hm)
theorem Ok.said (hc : CfgOK c) (h : Ok c A nd net g) (hm : m ∈ net) : Soft c A (Rs.message c draw m (nd m.dst)).1 ∧ Says c A (nd m.dst).id (Rs.message c draw m (nd m.dst)).2 := by
  have hM := (h.inv.msgs m hm).1
  have hi := hM.rng.2
  have hid := (h.inv.nds m.dst).id
  have hS := h.soft m.dst hi.1 hi.2
  have hT := h.term hm
  have hsrc : m.src ∈ others c (nd m.dst).id := mem_others.2 ⟨hM.rng.1, by rw [hid]; exact hM.form.ne⟩
  have key : ∀ s1, Soft c A s1 → s1.id = (nd m.dst).id → (3 ≤ m.kind → m.term = s1.term) → Soft c A (Rs.kinds c draw m s1).1 ∧ Says c A (nd m.dst).id (Rs.kinds c draw m s1).2 := fun s1 h1 h2 h3 => by
    rw [← h2] at hsrc ⊢
    exact ⟨h1.kinds hc hsrc (fun hk => hT.2 (by omega) (.inl (by omega))) (fun hk => by rw [← h3 (by omega)]; exact (h.eight m hm).1 hk), Says.kinds hc hsrc (fun x => (h1.heir x).2.2) hT.1 h1.term⟩
  unfold Rs.message
  split
  · exact ⟨hS, .nil⟩
  · split
    · rename_i h1 h2
      exact key _ (hS.follow hc (hT.2 h2.2.1 (h2.2.2))) rfl fun _ => by show m.term = max (nd m.dst).term m.term; omega
    · split
      · exact ⟨hS, Says.old hS.term⟩
      · rename_i h1 h2 h3
        exact key _ hS rfl fun hk => Classical.byContradiction fun hne => h2 ⟨by omega, by omega, .inl (by omega)⟩
theorem Ok.message (hc : CfgOK c) (h : Ok c A nd net g) (hm : m ∈ net) (hw : m.kind = 6 → m.term = (nd m.dst).term → (nd m.dst).role = 4 → m.rej = false → m.idx ≤ (nd m.dst).fin) (hn : ∀ x, x ∈ net' → x ∈ net ∨ x ∈ (message c draw m (nd m.dst)).2) : ∃ g', Ok c A (setN nd m.dst (message c draw m (nd m.dst)).1) net' g' ∧ Ext nd (setN nd m.dst (message c draw m (nd m.dst)).1) g g' := by
  have hM := (h.inv.msgs m hm).1
  have hi := hM.rng.2
  have hid := (h.inv.nds m.dst).id
  have hG := (Good.start h.inv hi).message (c := c) (draw := draw) hc.batch.2 rfl hc.n.2 hm rfl hw
  rw [List.nil_append] at hG
  have main := h.said (draw := draw) hc hm
  refine h.turn (Nat.le_refl _) h.pn hG main.1 ?_ (fun _ x => x) hn
  rw [hG.idEq]
  have := main.2
  rwa [hid] at this
end
end Go.Proofs.YtocogcgnahbpkaaGreat.Rs
