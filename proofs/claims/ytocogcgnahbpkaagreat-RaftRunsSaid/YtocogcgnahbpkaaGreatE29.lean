/-
  A part of the proof of what E53 says at its head.
-/
import Derived.Test.YtocogcgnahbpkaaGreatE18
import Derived.Test.YtocogcgnahbpkaaGreatE28
namespace Go.SL
open Go.Proofs Go.Proofs.YtocogcgnahbpkaaGreat
open Rs (Nd)
set_option maxRecDepth 10000
theorem W.join {P : Program} {n f : Nat} {e : Env} {L : List HP} {R : Fin} {x : Item} {k : List Item} {ds : List Deferred} (e0 : Env) (L0 : List HP) (tail : W P f n R k e0 ds L0) (main : W P f n R k e0 ds L0 → W P f n R (x :: k) e ds L) : W P f n R (x :: k) e ds L := main tail
theorem W.joinS {P : Program} {n f : Nat} {e : Env} {L : List HP} {R : Fin} {x : Item} {a b : Code} {k : List Item} {ds : List Deferred} (e0 : Env) (L0 : List HP) (tail : W P f n R (.code a :: .code b :: k) e0 ds L0) (main : W P f n R (.code a :: .code b :: k) e0 ds L0 → W P f n R (x :: .code (.seq a b) :: k) e ds L) : W P f n R (x :: .code (.seq a b) :: k) e ds L := main tail
theorem upd_self {f : Nat → Nat} {p v : Nat} : Rs.upd f p v p = v := if_pos rfl
theorem upd_ne {f : Nat → Nat} {p v q : Nat} (h : q ≠ p) : Rs.upd f p v q = f q := if_neg h
theorem row_set {c : Cfg} {s s' : Nd} {i y j : Nat} {v : Value} (hy : (oth c s)[i]? = some y) (hj : j < 4) (h1 : peerE s' y = (peerE s y).set j v) (h2 : ∀ z ∈ oth c s, z ≠ y → peerE s' z = peerE s z) (h3 : oth c s' = oth c s) :
    ((oth c s).flatMap (peerE s)).set (i * 4 + j) v = (oth c s').flatMap (peerE s') := by
  rw [flat_set peerE_len hy hj]
  exact oth_flat hy h1 h2 h3
theorem put_mem {l : List Nat} {x y : Nat} (h : y ≠ x) : decide (y ∈ Rs.put l x) = decide (y ∈ l) := by
  unfold Rs.put
  split
  · rfl
  · simp [h]
theorem put_self {l : List Nat} {x : Nat} : decide (x ∈ Rs.put l x) = true := by
  unfold Rs.put
  split
  · simpa
  · simp
attribute [local irreducible] W RS RG RD Fn FnQ OpS QOp Own Sat Rd Gr Mp Rg Lg Ms Es Nod Rp NodI RLg RMs REs RN RLd RNF
section
variable {c : Cfg} {h : RW} {s : Nd} {x : RX} {p : Nat} {q : Bool} {d : Int} {ms : List Rf.Msg} {m : Rf.Msg} {A : Option Addr} {cp : Nat} {l0 : List Rf.Ent} {fl : Nat × Nat}
def snpd (m : Rf.Msg) (s : Nd) : Nd × List Rf.Msg :=
  if m.idx ≤ s.commit then (s, [Rs.re s m 6 s.term s.commit false 0])
  else if m.idx ≤ s.fin ∧ s.tm m.idx = m.lt then ({ s with commit := m.idx }, [Rs.re s m 6 s.term m.idx false 0])
  else (s, [Rs.re s m 6 s.term m.idx true s.commit])
theorem snapshot_eq : Rs.snapshot c d m s = snpd m (Rs.follow c d m.term m.src s) := rfl
theorem rsnapshot_n (hs : Sn c s) (hm : ms.length ≤ 300) :
    Fn Tryz.prog 128 [pt p, .agg (encM m A cp).toArray].toArray [RNS p c l0 fl s ms] (Det (.tuple #[]) [RNS p c l0 fl (snpd m s).1 (ms ++ (snpd m s).2)]) := by
  unfold snpd
  have hf := hs.fin
  have hS : ∀ (s' : Nd) (i h : Nat) (j : Bool), Fn Tryz.prog 134 _ _ _ := fun s' i h j => rsay_n (p := p) (c := c) (l0 := l0) (fl := fl) (ms := ms) (s := s') (m := { kind := 6, src := 0, dst := m.src, term := 0, idx := i, rej := j, hint := h }) (A := none) (cp := 0) (by omega) (by show 6 ≠ 7; omega)
  refine Fn.enter Tryz.func128 rfl (by kernel_rfl) rfl ?_
  refine run ?_
  refine .box fun z => ?_
  refine run ?_
  refine .new fun z4 => ?_
  refine run ?_
  refine .first (RNS p c l0 fl s ms) ?_
  refine .rn fun h hh => ?_
  refine W.plan [] mixed (by rfl) (by kernel_rfl) ?_
  by_cases h1 : m.idx ≤ s.commit
  · rw [if_pos h1]
    refine run ?_
    refine .rshut h s (rxS ms.length (snL ms).length (fr l0 s.log) fl) hh ?_
    refine .ent (nilRLg (i := s.commit)) ?_
    refine .callD (hS s s.commit 0 false) ?_
    refine run ?_
    exact .doneD Tryz.func128
  rw [if_neg h1]
  refine run ?_
  refine W.plan [3, 8] mixed (by rfl) (by kernel_rfl) ?_
  refine run ?_
  refine .callQ (rknows_q (x := rxS ms.length (snL ms).length (fr l0 s.log) fl) (p := p) (q := true) (hh.rm hs) m.idx) ?_
  by_cases h2 : m.idx ≤ s.fin
  · have h2' : m.idx ≤ s.log.length := h2
    rw [decide_eq_true ⟨by omega, h2'⟩]
    by_cases h3 : s.tm m.idx = m.lt
    · rw [if_pos ⟨h2, h3⟩]
      refine run ?_
      refine .callQ (rterm_q (x := rxS ms.length (snL ms).length (fr l0 s.log) fl) (p := p) (q := true) (hh.rm hs) (i := m.idx) (by omega)) ?_
      refine run ?_
      refine .rshut (ms := ms) (c := c) (p := p) h { s with commit := m.idx } (rxS ms.length (snL ms).length (fr l0 s.log) fl) hh ?_
      refine .ent (nilRLg (i := m.idx)) ?_
      refine .callD (hS { s with commit := m.idx } m.idx 0 false) ?_
      refine run ?_
      exact .doneD Tryz.func128
    · rw [if_neg (fun hc => h3 hc.2)]
      refine run ?_
      refine .callQ (rterm_q (x := rxS ms.length (snL ms).length (fr l0 s.log) fl) (p := p) (q := true) (hh.rm hs) (i := m.idx) (by omega)) ?_
      refine run ?_
      refine .rshut h s (rxS ms.length (snL ms).length (fr l0 s.log) fl) hh ?_
      refine .ent (nilRLg (i := m.idx)) ?_
      refine .callD (hS s m.idx s.commit true) ?_
      refine run ?_
      exact .doneD Tryz.func128
  · rw [if_neg (fun hc => h2 hc.1)]
    rw [decide_eq_false (fun hc => h2 hc.2)]
    refine run ?_
    refine .rshut h s (rxS ms.length (snL ms).length (fr l0 s.log) fl) hh ?_
    refine .ent (nilRLg (i := m.idx)) ?_
    refine .callD (hS s m.idx s.commit true) ?_
    refine run ?_
    exact .doneD Tryz.func128
def lrM (s : Nd) (m : Rf.Msg) : Nd := { lr0 s m with mt := Rs.upd s.mt m.src m.idx }
theorem ranswer_n (hs : Sn c s) (hm : ms.length ≤ 300) (hy : m.src ∈ oth c s) (hl : s.role = 4 → Ld c s) (hi : s.role = 4 → m.rej = false → m.idx ≤ s.log.length) (hb : m.idx ≤ 1099511627776 ∧ m.hint ≤ 1099511627776) (hsl : (snL ms).length ≤ 300) :
    Fn Tryz.prog 127 [pt p, .agg (encM m A cp).toArray].toArray [RNS p c l0 fl s ms] (Det (.tuple #[]) [RNS p c l0 fl (Rs.appendReply c m s).1 (ms ++ (Rs.appendReply c m s).2)]) := by
  have hyl := oth_le hy
  have hn := hs.n
  have hsf := hs.fin
  obtain ⟨i, hyi⟩ := oth_index hy
  have hil := (List.getElem?_eq_some_iff.1 hyi).1
  have hol := oth_len (c := c) (s := s) hn.2
  obtain ⟨k1, k2, k3, k4, k5⟩ := learns_same (c := c) (m := m) (s := s)
  have hslr := Sn.learns (m := m) hs
  unfold Rs.appendReply
  refine Fn.enter Tryz.func127 rfl (by kernel_rfl) rfl ?_
  refine run ?_
  refine .box fun z => ?_
  by_cases hr : s.role = 4
  case neg =>
    rw [if_pos hr]
    refine run ?_
    refine .first (RNS p c l0 fl s ms) ?_
    refine .rn fun h hh => ?_
    refine run ?_
    refine .rshut h s (rxS ms.length (snL ms).length (fr l0 s.log) fl) hh ?_
    dsimp only; rw [List.append_nil]
    exact .retD Tryz.func127
  rw [if_neg (by simpa using hr)]
  have hi := hi hr
  have hl := hl hr
  have hlN : LdN c s := fun y hy => ⟨(hl y hy).1, (hl y hy).2.1⟩
  have hly := hl _ hy
  generalize hL : Rs.learns c m s = L at k1 k2 k3 k4 k5 hslr ⊢
  obtain ⟨s', o⟩ := L
  dsimp only at k1 k2 k3 k4 k5 hslr ⊢
  refine run ?_
  refine .first (RNS p c l0 fl s ms) ?_
  refine .rn fun h hh => ?_
  have hRO := othR (c := c) (h := h) (s := s)
  refine run ?_
  refine .callQ (rother_q (x := rxS ms.length (snL ms).length (fr l0 s.log) fl) (p := p) (q := true) (c := c) (h := h) (s := s) hn.2 hyi) ?_
  refine RS.fact (fun w h' => IsA.of (k := i * 4) hRO (by exact pick) (by rw [flat_len peerE_len]; omega) h') fun hA => ?_
  refine run ?_
  refine RS.det0 rfl rfl (O.storeRow (k := i * 4 + 3) (v := .bool true) rfl rfl rfl rfl rfl rfl pick (by rw [flat_len peerE_len]; omega)) ?_
  rw [row_set (s' := lr0 s m) hyi (by omega : 3 < 4) (by show [nv m.src, nv (s.mt m.src), nv (s.nx m.src), Value.bool (decide (m.src ∈ Rs.put s.hd m.src))] = _; rw [put_self]; rfl) (fun z _ hz => by show [nv z, nv (s.mt z), nv (s.nx z), Value.bool (decide (z ∈ Rs.put s.hd m.src))] = _; rw [put_mem hz]; rfl) rfl]
  refine run ?_
  refine .rshut (ms := ms) (c := c) (p := p) h (lr0 s m) (rxS ms.length (snL ms).length (fr l0 s.log) fl) hh ?_
  refine W.joinS [(0, pt p), (3, pt z), (4, nv i)] [RNS p c l0 fl s' (ms ++ o), Blk true z (encM m A cp) 59] ?_ fun tail => ?_
  · have hyi' : (oth c s')[i]? = some m.src := by unfold oth; rw [k2]; exact hyi
    have hil' := (List.getElem?_eq_some_iff.1 hyi').1
    refine .rn fun h hh => ?_
    have hRO := othR (c := c) (h := h) (s := s')
    have hE : FnQ Tryz.prog 70 [pt p].toArray [Rb true p c h s' (rxS (ms ++ o).length (snL (ms ++ o)).length (fr l0 s'.log) fl)] (nv s'.log.length) := rend_q (hh.rm hslr)
    refine W.fact (fun w h' => IsA.of (k := i * 4) hRO (by exact pick) (by rw [flat_len peerE_len]; omega) h') fun hA => ?_
    have hmol : (ms ++ o).length ≤ 500 := by rw [List.length_append]; omega
    by_cases hheir : s.heir = m.src
    · by_cases hq : s'.mt m.src = s'.log.length
      · rw [if_pos ⟨k3.trans hheir, hq⟩, ← List.append_assoc]
        refine run ?_
        refine W.plan [17] mixed (by rfl) (by kernel_rfl) ?_
        refine run ?_
        refine .callQ hE ?_
        refine run ?_
        refine .rshut (ms := ms ++ o) (c := c) (p := p) h s' (rxS (ms ++ o).length (snL (ms ++ o)).length (fr l0 s'.log) fl) hh ?_
        refine .ent (nilRLg (i := 0)) ?_
        refine .callD (rsay_n (c := c) (l0 := l0) (fl := fl) (ms := ms ++ o) (s := s') (m := { kind := 8, src := 0, dst := m.src, term := 0 }) (A := none) (cp := 0) hmol (by show (8 : Nat) ≠ 7; omega)) ?_
        refine run ?_
        exact .doneD Tryz.func127
      · rw [if_neg (fun hc => hq hc.2)]
        refine run ?_
        refine W.plan [17] mixed (by rfl) (by kernel_rfl) ?_
        refine run ?_
        refine .callQ hE ?_
        refine run ?_
        refine .rshut (ms := ms ++ o) (c := c) (p := p) h s' (rxS (ms ++ o).length (snL (ms ++ o)).length (fr l0 s'.log) fl) hh ?_
        exact .doneD Tryz.func127
    · rw [if_neg (fun hc => hheir (k3.symm.trans hc.1))]
      refine run ?_
      refine W.plan [17] mixed (by rfl) (by kernel_rfl) ?_
      refine run ?_
      refine .rshut (ms := ms ++ o) (c := c) (p := p) h s' (rxS (ms ++ o).length (snL (ms ++ o)).length (fr l0 s'.log) fl) hh ?_
      exact .doneD Tryz.func127
  · have hoe : (oth c (lr0 s m)).length = (oth c s).length := rfl
    have v3 : (lr0 s m).nx m.src = s.nx m.src := rfl
    have v4 : (lr0 s m).mt m.src = s.mt m.src := rfl
    have hs0 : Sn c (lr0 s m) := Sn.lr hs
    refine .first (RNS p c l0 fl (lr0 s m) ms) ?_
    refine .rn fun h hh => ?_
    have hRO := othR (c := c) (h := h) (s := lr0 s m)
    have hE : FnQ Tryz.prog 70 [pt p].toArray [Rb true p c h (lr0 s m) (rxS ms.length (snL ms).length (fr l0 (lr0 s m).log) fl)] (nv s.log.length) := rend_q (s := lr0 s m) (hh.rm hs0)
    refine W.fact (fun w h' => IsA.of (k := i * 4) hRO (by exact pick) (by rw [flat_len peerE_len]; show _ < (oth c s).length * 4; omega) h') fun hA => ?_
    by_cases hj : m.rej = true
    · refine W.hit 23 rfl (by rw [hj] : _ = .bool true) ?_
      by_cases h1 : m.idx + 1 = s.nx m.src
      · have hlr : Rs.learns c m s = (lrA s m, [Rs.app c (lrA s m) m.src]) := by rw [learns_eq, if_pos hj, if_pos h1]
        refine run ?_
        refine W.plan [] mixed (by rfl) (by kernel_rfl) ?_
        by_cases h2 : s.mt m.src < m.hint
        all_goals by_cases h3 : s.log.length < max (s.mt m.src) m.hint
        all_goals
          refine run ?_
          refine .callQ hE ?_
          refine run ?_
          try refine .callQ hE ?_
          try refine run ?_
          refine RS.hit 65 rfl (by congr 1; omega : _ = nv (min (max (s.mt m.src) m.hint + 1) (s.log.length + 1))) ?_
          refine RS.det0 rfl rfl (O.storeRow (k := i * 4 + 2) (v := nv (min (max (s.mt m.src) m.hint + 1) (s.log.length + 1))) rfl rfl rfl rfl rfl rfl pick (by rw [flat_len peerE_len]; show _ < (oth c s).length * 4; omega)) ?_
          rw [row_set (s := lr0 s m) (s' := lrA s m) hyi (by omega : 2 < 4) (by show [nv m.src, nv (s.mt m.src), nv (Rs.upd s.nx m.src _ m.src), Value.bool (decide (m.src ∈ Rs.put s.hd m.src))] = _; rw [upd_self]; rfl) (fun z _ hz => by show [nv z, nv (s.mt z), nv (Rs.upd s.nx m.src _ z), Value.bool (decide (z ∈ Rs.put s.hd m.src))] = _; rw [upd_ne hz]; rfl) rfl]
          refine run ?_
          refine .rshut (ms := ms) (c := c) (p := p) h (lrA s m) (rxS ms.length (snL ms).length (fr l0 s.log) fl) hh ?_
          refine .callD (rsend_n (i := i) (y := m.src) (s := lrA s m) (c := c) (l0 := l0) (fl := fl) (ms := ms) (Sn.lr hs) (by omega) hyi (by show 1 ≤ Rs.upd s.nx m.src _ m.src ∧ Rs.upd s.nx m.src _ m.src ≤ s.log.length + 1; simp only [Rs.upd, if_true]; show 1 ≤ min _ (s.log.length + 1) ∧ min _ (s.log.length + 1) ≤ _; omega) (by omega)) ?_
          refine run ?_
          obtain ⟨w1, w2⟩ := Prod.mk.inj (hL.symm.trans hlr)
          have e1 : RNS p c l0 fl (lrA s m) (ms ++ [Rs.app c (lrA s m) m.src]) = RNS p c l0 fl s' (ms ++ o) := by rw [w1, w2]
          rw [e1]
          exact .back tail
      · have hlr : Rs.learns c m s = (lr0 s m, []) := by rw [learns_eq, if_pos hj, if_neg h1]
        refine run ?_
        refine W.plan [] mixed (by rfl) (by kernel_rfl) ?_
        refine run ?_
        refine .rshut (ms := ms) (c := c) (p := p) h (lr0 s m) (rxS ms.length (snL ms).length (fr l0 s.log) fl) hh ?_
        obtain ⟨w1, w2⟩ := Prod.mk.inj (hL.symm.trans hlr)
        refine .first (RNS p c l0 fl (lr0 s m) ms) ?_
        have e1 : RNS p c l0 fl (lr0 s m) (ms) = RNS p c l0 fl s' (ms ++ o) := by rw [w1, w2, List.append_nil]
        rw [e1]
        exact .back tail
    · have hj : m.rej = false := by simpa using hj
      refine W.hit 23 rfl (by rw [hj] : _ = .bool false) ?_
      by_cases h1 : s.mt m.src < m.idx
      · have hi' := hi hj
        have hlr0 : Rs.learns c m s = if s.commit < (Rs.count c (lrB s m)).commit then (Rs.count c (lrB s m), Rs.apps c (Rs.count c (lrB s m))) else if m.idx + 1 ≤ s.fin then (Rs.count c (lrB s m), [Rs.app c (Rs.count c (lrB s m)) m.src]) else (Rs.count c (lrB s m), []) := by rw [learns_eq, if_neg (by simp [hj]), if_pos h1]
        have hB : Sn c (Rs.count c (lrB s m)) := (Sn.lr hs (s' := lrB s m)).count
        have hnB : LdN c (Rs.count c (lrB s m)) := fun y hy' => by
          show 1 ≤ Rs.upd s.nx m.src _ y ∧ Rs.upd s.nx m.src _ y ≤ s.log.length + 1
          unfold Rs.upd
          split
          · omega
          · exact hlN y hy'
        refine run ?_
        refine W.plan [] mixed (by rfl) (by kernel_rfl) ?_
        refine run ?_
        refine W.plan [] mixed (by rfl) (by kernel_rfl) ?_
        refine run ?_
        refine RG.det0 rfl rfl rfl (O.storeRow (k := i * 4 + 1) (v := nv m.idx) rfl rfl rfl rfl rfl rfl pick (by rw [flat_len peerE_len]; show _ < (oth c s).length * 4; omega)) ?_
        rw [row_set (s := lr0 s m) (s' := lrM s m) hyi (by omega : 1 < 4) (by show [nv m.src, nv (Rs.upd s.mt m.src _ m.src), nv (s.nx m.src), Value.bool (decide (m.src ∈ Rs.put s.hd m.src))] = _; rw [upd_self]; rfl) (fun z _ hz => by show [nv z, nv (Rs.upd s.mt m.src _ z), nv (s.nx z), Value.bool (decide (z ∈ Rs.put s.hd m.src))] = _; rw [upd_ne hz]; rfl) rfl]
        refine run ?_
        refine W.plan [] mixed (by rfl) (by kernel_rfl) ?_
        refine run ?_
        refine RG.det0 rfl rfl rfl (O.storeRow (k := i * 4 + 2) (v := nv (m.idx + 1)) rfl rfl rfl rfl rfl rfl pick (by rw [flat_len peerE_len]; show _ < (oth c s).length * 4; omega)) ?_
        rw [row_set (s := lrM s m) (s' := lrB s m) hyi (by omega : 2 < 4) (by show [nv m.src, nv (Rs.upd s.mt m.src _ m.src), nv (Rs.upd s.nx m.src _ m.src), Value.bool (decide (m.src ∈ Rs.put s.hd m.src))] = _; rw [upd_self, upd_self]; show _ = [nv m.src, nv (Rs.upd s.mt m.src _ m.src), nv (s.nx m.src), Value.bool (decide (m.src ∈ Rs.put s.hd m.src))].set 2 _; rw [upd_self]; rfl) (fun z _ hz => by show [nv z, nv (Rs.upd s.mt m.src _ z), nv (Rs.upd s.nx m.src _ z), Value.bool (decide (z ∈ Rs.put s.hd m.src))] = _; rw [upd_ne (f := s.nx) hz]; rfl) rfl]
        refine run ?_
        refine .rshut (ms := ms) (c := c) (p := p) h (lrB s m) (rxS ms.length (snL ms).length (fr l0 s.log) fl) hh ?_
        refine .callD (rcount_n (s := lrB s m) (p := p) (c := c) (ms := ms) (x := rxS ms.length (snL ms).length (fr l0 s.log) fl) (Sn.lr hs)) ?_
        by_cases h2 : s.commit < (Rs.count c (lrB s m)).commit
        · have hlr : Rs.learns c m s = (Rs.count c (lrB s m), Rs.apps c (Rs.count c (lrB s m))) := by rw [hlr0, if_pos h2]
          rw [show decide ((lrB s m).commit < (Rs.count c (lrB s m)).commit) = true from decide_eq_true h2]
          refine run ?_
          refine .callD (rsendAll_n (s := Rs.count c (lrB s m)) (p := p) (c := c) (ms := ms) (l0 := l0) (fl := fl) hB (by omega) hnB) ?_
          refine run ?_
          obtain ⟨w1, w2⟩ := Prod.mk.inj (hL.symm.trans hlr)
          refine .first (RNS p c l0 fl (Rs.count c (lrB s m)) (ms ++ Rs.apps c (Rs.count c (lrB s m)))) ?_
          have e1 : RNS p c l0 fl (Rs.count c (lrB s m)) (ms ++ Rs.apps c (Rs.count c (lrB s m))) = RNS p c l0 fl s' (ms ++ o) := by rw [w1, w2]
          rw [e1]
          exact .back tail
        · rw [show decide ((lrB s m).commit < (Rs.count c (lrB s m)).commit) = false from decide_eq_false h2]
          refine run ?_
          refine .first (RN p c (Rs.count c (lrB s m)) (rxS ms.length (snL ms).length (fr l0 s.log) fl) ms) ?_
          refine .rn fun h hh => ?_
          have hRO := othR (c := c) (h := h) (s := Rs.count c (lrB s m))
          have hoe : (oth c (Rs.count c (lrB s m))).length = (oth c s).length := rfl
          have v5 : (Rs.count c (lrB s m)).nx m.src = m.idx + 1 := upd_self
          have hE : FnQ Tryz.prog 70 [pt p].toArray [Rb true p c h (Rs.count c (lrB s m)) (rxS ms.length (snL ms).length (fr l0 s.log) fl)] (nv s.log.length) := rend_q (s := Rs.count c (lrB s m)) (hh.rm hB)
          refine W.fact (fun w h' => IsA.of (k := i * 4) hRO (by exact pick) (by rw [flat_len peerE_len]; show _ < (oth c s).length * 4; omega) h') fun hA => ?_
          refine W.plan [9] mixed (by rfl) (by kernel_rfl) ?_
          refine run ?_
          refine .callQ hE ?_
          by_cases h3 : m.idx + 1 ≤ s.log.length
          · have hlr : Rs.learns c m s = (Rs.count c (lrB s m), [Rs.app c (Rs.count c (lrB s m)) m.src]) := by rw [hlr0, if_neg h2]; exact if_pos h3
            refine run ?_
            refine .rshut (ms := ms) (c := c) (p := p) h (Rs.count c (lrB s m)) (rxS ms.length (snL ms).length (fr l0 s.log) fl) hh ?_
            refine .callD (rsend_n (i := i) (y := m.src) (s := Rs.count c (lrB s m)) (c := c) (l0 := l0) (fl := fl) (ms := ms) hB (by omega) hyi (hnB _ hy) (by omega)) ?_
            refine run ?_
            obtain ⟨w1, w2⟩ := Prod.mk.inj (hL.symm.trans hlr)
            refine .first (RNS p c l0 fl (Rs.count c (lrB s m)) (ms ++ [Rs.app c (Rs.count c (lrB s m)) m.src])) ?_
            have e1 : RNS p c l0 fl (Rs.count c (lrB s m)) (ms ++ [Rs.app c (Rs.count c (lrB s m)) m.src]) = RNS p c l0 fl s' (ms ++ o) := by rw [w1, w2]
            rw [e1]
            exact .back tail
          · have hlr : Rs.learns c m s = (Rs.count c (lrB s m), []) := by rw [hlr0, if_neg h2]; exact if_neg h3
            refine run ?_
            refine .rshut (ms := ms) (c := c) (p := p) h (Rs.count c (lrB s m)) (rxS ms.length (snL ms).length (fr l0 s.log) fl) hh ?_
            obtain ⟨w1, w2⟩ := Prod.mk.inj (hL.symm.trans hlr)
            refine .first (RNS p c l0 fl (Rs.count c (lrB s m)) (ms)) ?_
            have e1 : RNS p c l0 fl (Rs.count c (lrB s m)) (ms) = RNS p c l0 fl s' (ms ++ o) := by rw [w1, w2, List.append_nil]
            rw [e1]
            exact .back tail
      · have hlr : Rs.learns c m s = (lr0 s m, []) := by rw [learns_eq, if_neg (by simp [hj]), if_neg h1]
        refine run ?_
        refine W.plan [] mixed (by rfl) (by kernel_rfl) ?_
        refine run ?_
        refine .rshut (ms := ms) (c := c) (p := p) h (lr0 s m) (rxS ms.length (snL ms).length (fr l0 s.log) fl) hh ?_
        obtain ⟨w1, w2⟩ := Prod.mk.inj (hL.symm.trans hlr)
        refine .first (RNS p c l0 fl (lr0 s m) (ms)) ?_
        have e1 : RNS p c l0 fl (lr0 s m) (ms) = RNS p c l0 fl s' (ms ++ o) := by rw [w1, w2, List.append_nil]
        rw [e1]
        exact .back tail
end
end Go.SL
