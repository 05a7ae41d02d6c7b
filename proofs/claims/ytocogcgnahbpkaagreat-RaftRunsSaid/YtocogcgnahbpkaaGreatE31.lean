/-
  A part of the proof of what E53 says at its head.
-/
import Derived.Test.YtocogcgnahbpkaaGreatE20
import Derived.Test.YtocogcgnahbpkaaGreatE30
namespace Go.SL
open Go.Proofs Go.Proofs.YtocogcgnahbpkaaGreat
open Rs (Nd)
set_option maxRecDepth 10000
theorem W.joinR {ι : Type} {P : Program} {n f : Nat} {e : Env} {L : List HP} {R : Fin} {x y : Item} {a b r : Code} {k : List Item} {ds : List Deferred} (φ : ι → Prop) (e0 : ι → Env) (L0 : ι → List HP) (tail : ∀ i, φ i → W P f n R (.code a :: .code b :: .code r :: k) (e0 i) ds (L0 i))
    (main : (∀ i, φ i → W P f n R (.code a :: .code b :: .code r :: k) (e0 i) ds (L0 i)) → W P f n R (x :: y :: .code (.seq (.seq a b) r) :: k) e ds L) : W P f n R (x :: y :: .code (.seq (.seq a b) r) :: k) e ds L := main tail
theorem RS.joinR5 {P : Program} {n f : Nat} {e e0 : Env} {L L0 : List HP} {R : Fin} {ops : Array Oper} {rest : List Oper} {c0 c1 c2 c3 c4 a b r : Code} {k : List Item} {ds : List Deferred} (tail : W P f n R (.code a :: .code b :: .code r :: k) e0 ds L0)
    (main : W P f n R (.code a :: .code b :: .code r :: k) e0 ds L0 → RS P n ops rest (fun e L => W P f n R (.code (.seq c0 (.seq c1 (.seq c2 (.seq c3 (.seq c4 (.seq (.seq a b) r)))))) :: k) e ds L) e L) :
    RS P n ops rest (fun e L => W P f n R (.code (.seq c0 (.seq c1 (.seq c2 (.seq c3 (.seq c4 (.seq (.seq a b) r)))))) :: k) e ds L) e L := main tail
attribute [local irreducible] W RS RG RD Fn FnQ OpS QOp Own Sat Rd Gr Mp Rg Lg Ms Es Nod Rp NodI RLg RMs REs RN RLd RNF
section
variable {c : Cfg} {h : RW} {s : Nd} {x : RX} {p : Nat} {q : Bool} {d : Int} {ms : List Rf.Msg} {m : Rf.Msg} {A : Option Addr} {cp : Nat} {l0 : List Rf.Ent} {fl : Nat × Nat} {X D : HP} {mes : List LE}
structure HokR (c : Cfg) (s : Nd) (m : Rf.Msg) (X D : HP) (A : Option Addr) (cp : Nat) (mes : List LE) : Prop where
  ok : Hok c s m X D A cp mes
  heir : s.role ≠ 4 → s.heir = 0
  fit : m.kind = 5 → m.idx + m.es.length < 65536
theorem snL_le2 : (snL ms).length ≤ ms.length := by unfold snL; rw [List.length_map]; exact List.length_filter_le _ _
theorem HokR.follow (H : HokR c s m X D A cp mes) (l : Nat) : HokR c (Rs.follow c d m.term l s) m X D A cp mes := by
  have hmt := H.ok.mterm
  have hst := H.ok.term
  exact ⟨⟨H.ok.sn.mk H.ok.sn.id (by show max s.term m.term ≤ _; omega) H.ok.sn.fin H.ok.sn.data ⟨by show 0 ≤ _; omega, H.ok.sn.el.2⟩, H.ok.log, by show max s.term m.term < _; omega, hmt, H.ok.gr, H.ok.rf, fun h => absurd (show (1 : Nat) = 4 from h) (by omega), ⟨H.ok.fmd.kind, H.ok.fmd.src, H.ok.fmd.dst, H.ok.fmd.term, H.ok.fmd.nums, H.ok.fmd.log, H.ok.fmd.es, H.ok.fmd.snap, H.ok.fmd.rep, H.ok.fmd.len, H.ok.fmd.goes⟩, H.ok.X, H.ok.D, H.ok.es, H.ok.dat, H.ok.cap⟩, fun _ => rfl, H.fit⟩
theorem kinds_at : ∀ k, m.kind = k → Rs.kinds c d m s = match k with
    | 1 => Rs.preVote m s
    | 2 => Rs.preReply c d m s
    | 3 => Rs.vote c d m s
    | 4 => Rs.voteReply c d m s
    | 5 => Rs.append c d m s
    | 6 => Rs.appendReply c m s
    | 7 => Rs.snapshot c d m s
    | 8 => Rs.takeOver c d m s
    | _ => (s, []) := fun k h => by unfold Rs.kinds; rw [h]; rfl
def rstM (c : Cfg) (d : Int) (m : Rf.Msg) (s : Nd) : Nd × List Rf.Msg := if m.term < s.term then (s, Rs.old m s) else Rs.kinds c d m s
structure MI1 (c : Cfg) (d : Int) (m : Rf.Msg) (X D : HP) (A : Option Addr) (cp : Nat) (mes : List LE) (s s1 : Nd) : Prop where
  H : HokR c s1 m X D A cp mes
  log : s1.log = s.log
  res : rstM c d m s1 = Rs.message c d m s
  eq : m.kind = 5 ∨ m.kind = 6 ∨ m.kind = 7 → s1.term ≤ m.term → s1.term = m.term
set_option maxHeartbeats 4000000 in
theorem rmessage_n (H : HokR c s m X D A cp mes) (hm : ms.length ≤ 300) : Fn Tryz.prog 90 [pt p, .agg (encM m A cp).toArray, iv d].toArray [RNS p c s.log fl s ms, X, D]
    (Det (.tuple #[]) [RNS p c s.log fl (Rs.message c d m s).1 (ms ++ (Rs.message c d m s).2), X, D]) := by
  obtain ⟨k1, k2⟩ := H.ok.fmd.kind
  have hsl : (snL ms).length ≤ 300 := by have := snL_le2 (ms := ms); omega
  refine Fn.enter Tryz.func90 rfl (by kernel_rfl) rfl ?_
  refine run ?_
  refine .box fun z => ?_
  generalize hlead : (if m.kind = 5 ∨ m.kind = 7 then m.src else 0) = lead
  by_cases hret : (m.kind = 1 ∨ (m.kind = 3 ∧ m.hint = 0)) ∧ s.term < m.term ∧ Rs.led c s = true
  case pos =>
    have e : Rs.message c d m s = (s, []) := if_pos hret
    rw [e]
    dsimp only; rw [List.append_nil]
    obtain ⟨ha, hT, hl⟩ := hret
    have hl' : s.role = 4 ∨ (s.leader ≠ 0 ∧ s.elapsed < c.least) := by unfold Rs.led at hl; simpa using hl
    by_cases h1 : m.kind = 1
    all_goals by_cases h4 : s.role = 4
    all_goals
      have ha' : m.kind = 1 ∨ (m.kind = 3 ∧ m.hint = 0) := ha
      have ha2 : m.kind ≠ 1 → m.kind = 3 ∧ m.hint = 0 := fun h => ha'.resolve_left h
      have hl2 : s.role ≠ 4 → s.leader ≠ 0 ∧ s.elapsed < c.least := fun h => hl'.resolve_left h
      refine run ?_
      refine .first (RNS p c s.log fl s ms) ?_
      refine .rn fun h hh => ?_
      refine W.plan [] mixed (by rfl) (by kernel_rfl) ?_
      refine run ?_
      refine W.plan [] mixed (by rfl) (by kernel_rfl) ?_
      refine run ?_
      refine .rshut h s (rxS ms.length (snL ms).length (fr s.log s.log) fl) hh ?_
      exact .retD Tryz.func90
  refine RS.joinR5 (e0 := [(0, pt p), (2, iv d), (4, pt z), (8, nv lead)]) (L0 := [RNS p c s.log fl s ms, Blk true z (encM m A cp) 59, X, D]) ?_ fun tail => ?_
  · refine W.joinR (MI1 c d m X D A cp mes s) (fun _ => [(0, pt p), (2, iv d), (4, pt z)]) (fun s1 => [RNS p c s.log fl s1 ms, Blk true z (encM m A cp) 59, X, D]) ?_ fun tail2 => ?_
    rintro s1 ⟨H1, hlog, hres, heq⟩
    rw [← hres, ← hlog]
    have hs1 := H1.ok.sn
    have hkk : m.kind = 1 ∨ m.kind = 2 ∨ m.kind = 3 ∨ m.kind = 4 ∨ m.kind = 5 ∨ m.kind = 6 ∨ m.kind = 7 ∨ m.kind = 8 := by omega
    refine .rn fun h hh => ?_
    refine W.plan [] mixed (by rfl) (by kernel_rfl) ?_
    by_cases hst : m.term < s1.term
    · rw [show rstM c d m s1 = (s1, Rs.old m s1) from if_pos hst]
      refine run ?_
      refine .rshut (ms := ms) (c := c) (p := p) h s1 (rxS ms.length (snL ms).length (fr s1.log s1.log) fl) hh ?_
      refine .callD (rstale_n (c := c) (s := s1) (m := m) (A := A) (cp := cp) (l0 := s1.log) (fl := fl) (ms := ms) (by omega)) ?_
      refine run ?_
      exact .retD Tryz.func90
    rw [show rstM c d m s1 = Rs.kinds c d m s1 from if_neg hst]
    rcases hkk with hk | hk | hk | hk | hk | hk | hk | hk
    · rw [kinds_at 1 hk]
      refine run ?_
      refine .rshut (ms := ms) (c := c) (p := p) h s1 (rxS ms.length (snL ms).length (fr s1.log s1.log) fl) hh ?_
      refine .callD (rpreVote_n (c := c) (s := s1) (m := m) (A := A) (cp := cp) (p := p) (fl := fl) (ms := ms) (l0 := s1.log) hs1 (by omega)) ?_
      refine run ?_
      exact .doneD Tryz.func90
    · rw [kinds_at 2 hk]
      refine run ?_
      refine .rshut (ms := ms) (c := c) (p := p) h s1 (rxS ms.length (snL ms).length (fr s1.log s1.log) fl) hh ?_
      refine .callD (rpreReply_n (c := c) (s := s1) (m := m) (A := A) (cp := cp) (p := p) (fl := fl) (ms := ms) (d := d) hs1 hm H1.ok.gr H1.ok.log H1.ok.term (fun h2 => H1.heir (by omega))) ?_
      refine run ?_
      exact .doneD Tryz.func90
    · rw [kinds_at 3 hk]
      refine run ?_
      refine .rshut (ms := ms) (c := c) (p := p) h s1 (rxS ms.length (snL ms).length (fr s1.log s1.log) fl) hh ?_
      refine .callD (rvote_n (c := c) (s := s1) (m := m) (A := A) (cp := cp) (p := p) (fl := fl) (ms := ms) (l0 := s1.log) (d := d) hs1 hm) ?_
      refine run ?_
      exact .doneD Tryz.func90
    · rw [kinds_at 4 hk]
      refine run ?_
      refine .rshut (ms := ms) (c := c) (p := p) h s1 (rxS ms.length (snL ms).length (fr s1.log s1.log) fl) hh ?_
      refine .callD (rvoteReply_n (c := c) (s := s1) (m := m) (A := A) (cp := cp) (p := p) (fl := fl) (ms := ms) (d := d) hs1 hm H1.ok.gr H1.ok.rf H1.ok.log) ?_
      refine run ?_
      exact .doneD Tryz.func90
    · rw [kinds_at 5 hk]
      dsimp only
      have hte := heq (by omega) (by omega)
      have hF := (H1.follow (d := d) m.src).ok
      rw [append_eq]
      rw [← hte] at hF ⊢
      refine run ?_
      refine W.plan [] mixed (by rfl) (by kernel_rfl) ?_
      refine run ?_
      refine .callD (rfollow_ok (c := c) (h := h) (s := s1) (x := (rxS ms.length (snL ms).length (fr s1.log s1.log) fl)) (p := p) (d := d) (term := s1.term) (leader := m.src) hs1) ?_
      refine run ?_
      refine .rshut (ms := ms) (c := c) (p := p) h (Rs.follow c d s1.term m.src s1) (rxS ms.length (snL ms).length (fr s1.log s1.log) fl) hh ?_
      refine .callD (rappend_n (c := c) (s := Rs.follow c d s1.term m.src s1) (m := m) (A := A) (cp := cp) (p := p) (fl := fl) (ms := ms) (X := X) (D := D) (mes := mes) hF.sn hm hF.X hF.D hF.es hF.dat (fun h => (hF.fmd.log (by omega)).2 h) (H1.fit hk) hF.fmd.nums.2.1) ?_
      refine run ?_
      exact .doneD Tryz.func90
    · rw [kinds_at 6 hk]
      refine run ?_
      refine .rshut (ms := ms) (c := c) (p := p) h s1 (rxS ms.length (snL ms).length (fr s1.log s1.log) fl) hh ?_
      refine .callD (ranswer_n (c := c) (s := s1) (m := m) (A := A) (cp := cp) (p := p) (fl := fl) (ms := ms) (l0 := s1.log) hs1 hm H1.ok.fmd.src (fun h => (H1.ok.ld h).1) (fun h => (H1.ok.ld h).2 hk (heq (by omega) (by omega)).symm) ⟨by have := H1.ok.fmd.nums.1; omega, H1.ok.fmd.nums.2.2.1⟩ hsl) ?_
      refine run ?_
      exact .doneD Tryz.func90
    · rw [kinds_at 7 hk]
      dsimp only
      have hte := heq (by omega) (by omega)
      have hF := (H1.follow (d := d) m.src).ok
      rw [snapshot_eq]
      rw [← hte] at hF ⊢
      refine run ?_
      refine W.plan [] mixed (by rfl) (by kernel_rfl) ?_
      refine run ?_
      refine .callD (rfollow_ok (c := c) (h := h) (s := s1) (x := (rxS ms.length (snL ms).length (fr s1.log s1.log) fl)) (p := p) (d := d) (term := s1.term) (leader := m.src) hs1) ?_
      refine run ?_
      refine .rshut (ms := ms) (c := c) (p := p) h (Rs.follow c d s1.term m.src s1) (rxS ms.length (snL ms).length (fr s1.log s1.log) fl) hh ?_
      refine .callD (rsnapshot_n (c := c) (s := Rs.follow c d s1.term m.src s1) (m := m) (A := A) (cp := cp) (p := p) (fl := fl) (ms := ms) (l0 := s1.log) hF.sn hm) ?_
      refine run ?_
      exact .doneD Tryz.func90
    · have ek : Rs.kinds c d m s1 = Rs.takeOver c d m s1 := kinds_at 8 hk
      rw [ek]
      unfold Rs.takeOver
      have hSt : FnQ Tryz.prog 129 [pt p].toArray [Rb true p c h s1 (rxS ms.length (snL ms).length (fr s1.log s1.log) fl)] (.bool (Rs.stuck s1)) := rstuck_q (hh.rm hs1)
      by_cases h1 : s1.role = 1
      · by_cases h2 : s1.leader = m.src
        · refine run ?_
          refine W.plan [16] mixed (by rfl) (by kernel_rfl) ?_
          refine run ?_
          refine .callQ hSt ?_
          cases hq : Rs.stuck s1 with
          | true =>
            rw [if_neg (by simp)]
            dsimp only; rw [List.append_nil]
            refine run ?_
            refine .rshut (ms := ms) (c := c) (p := p) h s1 (rxS ms.length (snL ms).length (fr s1.log s1.log) fl) hh ?_
            exact .doneD Tryz.func90
          | false =>
            rw [if_pos ⟨h1, h2, by simp⟩]
            refine run ?_
            refine .rshut (ms := ms) (c := c) (p := p) h s1 (rxS ms.length (snL ms).length (fr s1.log s1.log) fl) hh ?_
            refine .callD (rstand_n (hint := 1) (d := d) (s := s1) (c := c) (p := p) (fl := fl) (ms := ms) hs1 hm H1.ok.log H1.ok.term (H1.heir (by omega))) ?_
            refine run ?_
            exact .doneD Tryz.func90
        · rw [if_neg (fun hc => h2 hc.2.1)]
          dsimp only; rw [List.append_nil]
          refine run ?_
          refine W.plan [16] mixed (by rfl) (by kernel_rfl) ?_
          refine run ?_
          refine .rshut (ms := ms) (c := c) (p := p) h s1 (rxS ms.length (snL ms).length (fr s1.log s1.log) fl) hh ?_
          exact .doneD Tryz.func90
      · rw [if_neg (fun hc => h1 hc.1)]
        dsimp only; rw [List.append_nil]
        refine run ?_
        refine W.plan [16] mixed (by rfl) (by kernel_rfl) ?_
        refine run ?_
        refine .rshut (ms := ms) (c := c) (p := p) h s1 (rxS ms.length (snL ms).length (fr s1.log s1.log) fl) hh ?_
        exact .doneD Tryz.func90
    have hnoF : ¬ (s.term < m.term ∧ m.kind ≠ 1 ∧ (m.kind ≠ 2 ∨ m.rej = true)) → MI1 c d m X D A cp mes s s := fun hF => ⟨H, rfl, by unfold Rs.message; rw [if_neg hret, if_neg hF]; rfl, fun h5 h6 => by
      have : ¬ s.term < m.term := fun hc => hF ⟨hc, by omega, .inl (by omega)⟩
      omega⟩
    have hF : s.term < m.term ∧ m.kind ≠ 1 ∧ (m.kind ≠ 2 ∨ m.rej = true) → MI1 c d m X D A cp mes s (Rs.follow c d m.term lead s) := fun hF => ⟨H.follow lead, rfl, by
      unfold Rs.message; rw [if_neg hret, if_pos hF, hlead]; exact if_neg (by show ¬ m.term < max s.term m.term; omega), fun _ _ => by show max s.term m.term = m.term; omega⟩
    refine .rn fun h hh => ?_
    refine W.plan [] mixed (by rfl) (by kernel_rfl) ?_
    by_cases hT : s.term < m.term
    · by_cases h1 : m.kind = 1
      · refine run ?_
        refine .rshut (ms := ms) (c := c) (p := p) h s (rxS ms.length (snL ms).length (fr s.log s.log) fl) hh ?_
        exact .back (tail2 s (hnoF (fun hc => hc.2.1 h1)))
      · by_cases h2 : m.kind = 2
        · by_cases hj : m.rej = true
          · refine run ?_
            refine W.hit 89 rfl (by rw [hj] : _ = .bool true) ?_
            refine run ?_
            refine .callD (rfollow_ok (c := c) (h := h) (s := s) (x := (rxS ms.length (snL ms).length (fr s.log s.log) fl)) (p := p) (d := d) (term := m.term) (leader := lead) H.ok.sn) ?_
            refine run ?_
            refine .rshut (ms := ms) (c := c) (p := p) h (Rs.follow c d m.term lead s) (rxS ms.length (snL ms).length (fr s.log s.log) fl) hh ?_
            exact .back (tail2 _ (hF ⟨hT, h1, .inr hj⟩))
          · refine run ?_
            refine W.hit 89 rfl (by rw [show m.rej = false by simpa using hj] : _ = .bool false) ?_
            refine run ?_
            refine .rshut (ms := ms) (c := c) (p := p) h s (rxS ms.length (snL ms).length (fr s.log s.log) fl) hh ?_
            exact .back (tail2 s (hnoF (fun hc => hc.2.2.elim (fun h => h h2) hj)))
        · refine run ?_
          refine .callD (rfollow_ok (c := c) (h := h) (s := s) (x := (rxS ms.length (snL ms).length (fr s.log s.log) fl)) (p := p) (d := d) (term := m.term) (leader := lead) H.ok.sn) ?_
          refine run ?_
          refine .rshut (ms := ms) (c := c) (p := p) h (Rs.follow c d m.term lead s) (rxS ms.length (snL ms).length (fr s.log s.log) fl) hh ?_
          exact .back (tail2 _ (hF ⟨hT, h1, .inl h2⟩))
    · refine run ?_
      refine .rshut (ms := ms) (c := c) (p := p) h s (rxS ms.length (snL ms).length (fr s.log s.log) fl) hh ?_
      exact .back (tail2 s (hnoF (fun hc => hT hc.1)))
  have hret' : ¬ ((m.kind = 1 ∨ (m.kind = 3 ∧ m.hint = 0)) ∧ s.term < m.term ∧ (s.role = 4 ∨ (s.leader ≠ 0 ∧ s.elapsed < c.least))) := fun hc => hret ⟨hc.1, hc.2.1, by unfold Rs.led; simpa using hc.2.2⟩
  have hasks : (m.kind = 1 ∨ (m.kind = 3 ∧ m.hint = 0)) ∨ (m.kind = 3 ∧ m.hint ≠ 0) ∨ m.kind = 5 ∨ m.kind = 7 ∨ (m.kind ≠ 1 ∧ m.kind ≠ 3 ∧ m.kind ≠ 5 ∧ m.kind ≠ 7) := by omega
  have hled : s.role = 4 ∨ (s.role ≠ 4 ∧ s.leader = 0) ∨ (s.role ≠ 4 ∧ s.leader ≠ 0 ∧ s.elapsed < c.least) ∨ (s.role ≠ 4 ∧ s.leader ≠ 0 ∧ ¬ s.elapsed < c.least) := by omega
  have hl8 : lead = if m.kind = 5 ∨ m.kind = 7 then m.src else 0 := hlead.symm
  clear hlead hret H
  rcases hasks with (ha | ha) | ha | ha | ha | ha
  case' inl.inl => by_cases hT : s.term < m.term
  case' inl.inr => by_cases hT : s.term < m.term
  all_goals
    rcases hled with hd | hd | hd | hd
  all_goals first
  | (exfalso; omega)
  | (refine run ?_
     refine .first (RNS p c s.log fl s ms) ?_
     refine .rn fun h hh => ?_
     refine W.plan [] mixed (by rfl) (by kernel_rfl) ?_
     refine run ?_
     refine W.plan [] mixed (by rfl) (by kernel_rfl) ?_
     refine run ?_
     refine .hit 8 rfl (by rw [hl8]; first | (rw [if_pos (by omega)]; done) | (rw [if_neg (by omega)]; rfl) : _ = nv lead) ?_
     refine .rshut h s (rxS ms.length (snL ms).length (fr s.log s.log) fl) hh ?_
     exact .back tail)
end
end Go.SL
