/-
  A part of the proof of what E53 says at its head.
-/
import Derived.Test.YtocogcgnahbpkaaGreatE17
namespace Go.SL
open Go.Proofs Go.Proofs.YtocogcgnahbpkaaGreat
open Rs (Nd)
attribute [local irreducible] W RS RG RD Fn FnQ OpS QOp Own Sat Rd Gr Mp Rg Lg Ms Es Nod Rp
set_option maxRecDepth 10000
section
variable {c : Cfg} {h : HW} {s : Nd} {x : EX} {p bs : Nat} {d : Int} {l0 : List Rf.Ent} {fl : Nat × Nat} {ms : List Rf.Msg} {m : Rf.Msg} {A : Option Addr} {cp : Nat}
theorem voteReply_n (hs : Sn c s) (hm : ms.length ≤ 300) (hsr : m.src ≤ 5) (hg : s.gr.length ≤ 1000) (hrf : s.rf.length ≤ 1000) (hr : s.log.length < 65536) :
    Fn Tryz.prog 143 [pt p, .agg (encM m A cp).toArray].toArray [NodS p c bs d s.log fl s ms] (Det (.tuple #[]) [NodS p c bs d s.log fl (Rs.voteReply c d m s).1 (ms ++ (Rs.voteReply c d m s).2)]) := by
  unfold Rs.voteReply
  have hpl := put_len (l := s.gr) (x := m.src)
  have hpf := put_len (l := s.rf) (x := m.src)
  refine Fn.enter Tryz.func143 rfl (by kernel_rfl) rfl ?_
  refine run ?_
  refine .box fun z => ?_
  refine run ?_
  refine .first (NodS p c bs d s.log fl s ms) ?_
  refine .nod fun h hh => ?_
  by_cases h2 : s.role = 3
  · rw [if_neg (by simpa using h2)]
    refine .first (Rp c h s) ?_
    refine .rp3 h2 fun bg br g1 g2 => ?_
    cases hj : m.rej with
    | false =>
      rw [if_pos rfl]
      refine run ?_
      refine W.hit 11 rfl (by rw [hj]; rfl : _ = .bool true) ?_
      refine run ?_
      refine W.plan [] mixed (by rfl) (by kernel_rfl) ?_
      refine run ?_
      refine .delB (b := br) (l := s.rf) m.src (by unfold okN; omega) ?_ (hx := by rw [← g2]; exact rfl)
      refine run ?_
      refine W.plan [] mixed (by rfl) (by kernel_rfl) ?_
      refine run ?_
      refine .putB (b := bg) (l := s.gr) m.src (by unfold okN; omega) ?_ (hx := by rw [← g1]; exact rfl)
      refine run ?_
      refine .lenB (b := bg) (l := Rs.put s.gr m.src) ?_ (hx := by rw [← g1]; exact rfl)
      refine .callQ (v := .bool (Rs.maj c (Rs.put s.gr m.src).length)) (maj_q (c := c) (h := h) (s := s) (x := ⟨d, ms.length, fr s.log s.log, fl.1, fl.2⟩) (p := p) (q := true) (Rs.put s.gr m.src).length (by omega)) ?_
      have hs1 : Sn c { s with rf := s.rf.filter (· ≠ m.src), gr := Rs.put s.gr m.src } := Sn.el' hs rfl rfl rfl rfl rfl hs.el
      refine .ent ((Picks.ent (a := [MB bg (Rs.put s.gr m.src), MB br (s.rf.filter (· ≠ m.src))]) picks).trans (Rp.c3 (c := c) (h := h) (s := { s with rf := s.rf.filter (· ≠ m.src), gr := Rs.put s.gr m.src }) h2 g1 g2)) ?_
      refine .shutS (l0 := s.log) h h { s with rf := s.rf.filter (· ≠ m.src), gr := Rs.put s.gr m.src } { s with rf := s.rf.filter (· ≠ m.src), gr := Rs.put s.gr m.src } hh ?_
      dsimp only
      cases hmj : Rs.maj c (Rs.put s.gr m.src).length with
      | true =>
        rw [if_pos rfl]
        refine run ?_
        refine .callD (lead_ok (s := { s with rf := s.rf.filter (· ≠ m.src), gr := Rs.put s.gr m.src }) (c := c) (p := p) (d := d) (fl := fl) (ms := ms) (bs := bs) hs1 (by omega) hr) ?_
        refine run ?_
        exact .retD Tryz.func143
      | false =>
        rw [if_neg (by simp)]
        dsimp only; rw [List.append_nil]
        refine run ?_
        exact .retD Tryz.func143
    | true =>
      rw [if_neg (by simp)]
      refine run ?_
      refine W.hit 11 rfl (by rw [hj]; rfl : _ = .bool false) ?_
      refine run ?_
      refine W.plan [] mixed (by rfl) (by kernel_rfl) ?_
      refine run ?_
      refine .lookB (b := bg) (l := s.gr) m.src (by unfold okN; omega) ?_ (hx := by rw [← g1]; exact rfl)
      dsimp only
      by_cases hin : m.src ∈ s.gr
      · rw [if_pos hin, decide_eq_true hin]
        refine run ?_
        refine .lenB (b := br) (l := s.rf) ?_ (hx := by rw [← g2]; exact rfl)
        refine .callQ (v := .bool (Rs.maj c (s.rf).length)) (maj_q (c := c) (h := h) (s := s) (x := ⟨d, ms.length, fr s.log s.log, fl.1, fl.2⟩) (p := p) (q := true) (s.rf).length (by omega)) ?_
        refine .ent ((Picks.ent (a := [MB bg s.gr, MB br (s.rf)]) picks).trans (Rp.c3 (c := c) (h := h) (s := s) h2 g1 g2)) ?_
        refine .shutS (l0 := s.log) h h (s) (s) hh ?_
        cases hmj : Rs.maj c (s.rf).length with
        | true =>
          rw [if_pos rfl]
          refine run ?_
          refine .first (NodS p c bs d s.log fl (s) ms) ?_
          refine .nod fun h hh => ?_
          refine run ?_
          refine .shutS (l0 := s.log) h h (s) (s) hh ?_
          refine .callD (follow_n (x := ⟨d, ms.length, fr s.log s.log, fl.1, fl.2⟩) (s := s) (c := c) (p := p) (term := s.term) (leader := 0) (ms := ms) (bs := bs) (Sn.el' hs rfl rfl rfl rfl rfl hs.el)) ?_
          dsimp only; rw [List.append_nil]
          refine run ?_
          exact .doneD Tryz.func143
        | false =>
          rw [if_neg (by simp)]
          dsimp only; rw [List.append_nil]
          refine run ?_
          exact .doneD Tryz.func143
      · rw [if_neg hin, decide_eq_false hin]
        refine run ?_
        refine W.plan [] mixed (by rfl) (by kernel_rfl) ?_
        refine run ?_
        refine .putB (b := br) (l := s.rf) m.src (by unfold okN; omega) ?_ (hx := by rw [← g2]; exact rfl)
        refine run ?_
        refine .lenB (b := br) (l := Rs.put s.rf m.src) ?_ (hx := by rw [← g2]; exact rfl)
        refine .callQ (v := .bool (Rs.maj c (Rs.put s.rf m.src).length)) (maj_q (c := c) (h := h) (s := s) (x := ⟨d, ms.length, fr s.log s.log, fl.1, fl.2⟩) (p := p) (q := true) (Rs.put s.rf m.src).length (by omega)) ?_
        refine .ent ((Picks.ent (a := [MB bg s.gr, MB br (Rs.put s.rf m.src)]) picks).trans (Rp.c3 (c := c) (h := h) (s := { s with rf := Rs.put s.rf m.src }) h2 g1 g2)) ?_
        refine .shutS (l0 := s.log) h h ({ s with rf := Rs.put s.rf m.src }) ({ s with rf := Rs.put s.rf m.src }) hh ?_
        dsimp only
        cases hmj : Rs.maj c (Rs.put s.rf m.src).length with
        | true =>
          rw [if_pos rfl]
          refine run ?_
          refine .first (NodS p c bs d s.log fl ({ s with rf := Rs.put s.rf m.src }) ms) ?_
          refine .nod fun h hh => ?_
          refine run ?_
          refine .shutS (l0 := s.log) h h ({ s with rf := Rs.put s.rf m.src }) ({ s with rf := Rs.put s.rf m.src }) hh ?_
          refine .callD (follow_n (x := ⟨d, ms.length, fr s.log s.log, fl.1, fl.2⟩) (s := { s with rf := Rs.put s.rf m.src }) (c := c) (p := p) (term := s.term) (leader := 0) (ms := ms) (bs := bs) (Sn.el' hs rfl rfl rfl rfl rfl hs.el)) ?_
          dsimp only; rw [List.append_nil]
          refine run ?_
          exact .doneD Tryz.func143
        | false =>
          rw [if_neg (by simp)]
          dsimp only; rw [List.append_nil]
          refine run ?_
          exact .doneD Tryz.func143
  · rw [if_pos h2]
    refine run ?_
    refine .shutS (l0 := s.log) h h s s hh ?_
    dsimp only; rw [List.append_nil]
    exact .retD Tryz.func143
theorem snapshot_n (hs : Sn c s) (hm : ms.length ≤ 300) (ht : m.term ≤ 1099511627776) : Fn Tryz.prog 146 [pt p, .agg (encM m A cp).toArray].toArray [NodS p c bs d l0 fl s ms] (Det (.tuple #[]) [NodS p c bs d l0 fl (Rs.snapshot c d m s).1 (ms ++ (Rs.snapshot c d m s).2)]) := by
  unfold Rs.snapshot
  refine Fn.enter Tryz.func146 rfl (by kernel_rfl) rfl ?_
  refine run ?_
  refine .box fun z => ?_
  refine run ?_
  refine .callD (follow_n (x := ⟨d, ms.length, fr l0 s.log, fl.1, fl.2⟩) (s := s) (c := c) (p := p) (term := m.term) (leader := m.src) (ms := ms) (bs := bs) hs) ?_
  have hs1 : Sn c (Rs.follow c d m.term m.src s) := hs.mk hs.id (by have := hs.term; show max s.term m.term ≤ _; omega) hs.fin hs.data ⟨by show 0 ≤ _; omega, hs.el.2⟩
  have hl1 : NodS p c bs d l0 fl (Rs.follow c d m.term m.src s) ms = Nod p c bs (Rs.follow c d m.term m.src s) ⟨d, ms.length, fr l0 s.log, fl.1, fl.2⟩ ms := rfl
  rw [← hl1]
  clear hl1
  generalize Rs.follow c d m.term m.src s = s1 at hs1
  have hf := hs1.fin
  dsimp only
  refine run ?_
  refine .first (NodS p c bs d l0 fl s1 ms) ?_
  refine .nod fun h hh => ?_
  have hE : FnQ Tryz.prog 57 [pt p].toArray [Nb true p c h s1 ⟨d, ms.length, fr l0 s1.log, fl.1, fl.2⟩] (nv s1.log.length) := end_q (hs1.at hh)
  by_cases h1 : m.idx ≤ s1.commit
  · rw [if_pos h1]
    refine W.plan [] mixed (by rfl) (by kernel_rfl) ?_
    refine run ?_
    refine W.plan [] mixed (by rfl) (by kernel_rfl) ?_
    refine run ?_
    refine .shutS (l0 := l0) h h s1 s1 hh ?_
    refine .callD (reply_n (m := m) (A := A) (cp := cp) (s := s1) (i := s1.commit) (c := c) (p := p) (bs := bs) (d := d) (l0 := l0) (fl := fl) (ms := ms) (by omega)) ?_
    refine run ?_
    exact .doneD Tryz.func146
  · rw [if_neg h1]
    have hcom : (s1.commit : Int) < m.idx := by omega
    by_cases h2 : m.idx ≤ s1.log.length
    · have hT := term_q (x := ⟨d, ms.length, fr l0 s1.log, fl.1, fl.2⟩) (p := p) (q := true) (hs1.at hh) (i := m.idx) (by omega)
      by_cases h3 : s1.tm m.idx = m.lt
      · rw [if_pos ⟨h2, h3⟩]
        refine W.plan [] mixed (by rfl) (by kernel_rfl) ?_
        refine run ?_
        refine W.plan [3, 9] mixed (by rfl) (by kernel_rfl) ?_
        refine run ?_
        refine .callQ hE ?_
        refine run ?_
        refine .callQ hT ?_
        refine run ?_
        refine .shutS (l0 := l0) h h { s1 with commit := m.idx } s1 hh ?_
        refine .callD (reply_n (m := m) (A := A) (cp := cp) (s := { s1 with commit := m.idx }) (i := m.idx) (c := c) (p := p) (bs := bs) (d := d) (l0 := l0) (fl := fl) (ms := ms) (by omega)) ?_
        refine run ?_
        exact .doneD Tryz.func146
      · rw [if_neg (fun hc => h3 hc.2)]
        refine W.plan [] mixed (by rfl) (by kernel_rfl) ?_
        refine run ?_
        refine W.plan [3, 9] mixed (by rfl) (by kernel_rfl) ?_
        refine run ?_
        refine .callQ hE ?_
        refine run ?_
        refine .callQ hT ?_
        refine run ?_
        refine W.plan [] mixed (by rfl) (by kernel_rfl) ?_
        refine run ?_
        refine .shutS (l0 := l0) h h s1 s1 hh ?_
        refine .callD (reject_n (m := m) (A := A) (cp := cp) (s := s1) (i := s1.commit) (c := c) (p := p) (bs := bs) (d := d) (l0 := l0) (fl := fl) (ms := ms) (by omega)) ?_
        refine run ?_
        exact .doneD Tryz.func146
    · rw [if_neg (fun hc => h2 hc.1)]
      refine W.plan [] mixed (by rfl) (by kernel_rfl) ?_
      refine run ?_
      refine W.plan [3, 9] mixed (by rfl) (by kernel_rfl) ?_
      refine run ?_
      refine .callQ hE ?_
      refine run ?_
      refine W.plan [] mixed (by rfl) (by kernel_rfl) ?_
      refine run ?_
      refine .shutS (l0 := l0) h h s1 s1 hh ?_
      refine .callD (reject_n (m := m) (A := A) (cp := cp) (s := s1) (i := s1.commit) (c := c) (p := p) (bs := bs) (d := d) (l0 := l0) (fl := fl) (ms := ms) (by omega)) ?_
      refine run ?_
      exact .doneD Tryz.func146
theorem takeOver_n (hs : Sn c s) (hm : ms.length ≤ 300) (hr : s.log.length < 65536) (ht : s.term < 1099511627776) :
    Fn Tryz.prog 147 [pt p, .agg (encM m A cp).toArray].toArray [NodS p c bs d s.log fl s ms] (Det (.tuple #[]) [NodS p c bs d s.log fl (Rs.takeOver c d m s).1 (ms ++ (Rs.takeOver c d m s).2)]) := by
  unfold Rs.takeOver
  refine Fn.enter Tryz.func147 rfl (by kernel_rfl) rfl ?_
  refine run ?_
  refine .box fun z => ?_
  refine run ?_
  refine .first (NodS p c bs d s.log fl s ms) ?_
  refine .nod fun h hh => ?_
  refine W.plan [16] mixed (by rfl) (by kernel_rfl) ?_
  by_cases h1 : s.role = 1
  · by_cases h2 : s.leader = m.src
    · refine run ?_
      refine .callQ (stuck_q (x := ⟨d, ms.length, fr s.log s.log, fl.1, fl.2⟩) (p := p) (q := true) (hs.at hh)) ?_
      cases hst : Rs.stuck s with
      | true =>
        rw [if_neg (by simp)]
        refine run ?_
        refine .shutS (l0 := s.log) h h s s hh ?_
        dsimp only; rw [List.append_nil]
        exact .doneD Tryz.func147
      | false =>
        rw [if_pos ⟨h1, h2, by simp⟩]
        refine run ?_
        refine .shutS (l0 := s.log) h h s s hh ?_
        refine .callD (stand_ok (b := true) (s := s) (c := c) (p := p) (d := d) (fl := fl) (ms := ms) (bs := bs) hs hm hr ht) ?_
        refine run ?_
        exact .doneD Tryz.func147
    · rw [if_neg (fun hc => h2 hc.2.1)]
      refine run ?_
      refine .shutS (l0 := s.log) h h s s hh ?_
      dsimp only; rw [List.append_nil]
      exact .doneD Tryz.func147
  · rw [if_neg (fun hc => h1 hc.1)]
    refine run ?_
    refine .shutS (l0 := s.log) h h s s hh ?_
    dsimp only; rw [List.append_nil]
    exact .doneD Tryz.func147
end
end Go.SL
namespace Go.SL
open Go.Proofs Go.Proofs.YtocogcgnahbpkaaGreat
open Rs (Nd)
attribute [local irreducible] W RS RG RD Fn FnQ OpS QOp Own Sat Rd Gr Mp Rg Lg Ms Es Nod Rp
set_option maxRecDepth 10000
section
variable {c : Cfg} {h : HW} {s : Nd} {x : EX} {p bs : Nat} {d : Int} {l0 : List Rf.Ent} {fl : Nat × Nat} {ms : List Rf.Msg} {m : Rf.Msg} {A : Option Addr} {cp : Nat}
def lr0 (s : Nd) (m : Rf.Msg) : Nd := { s with hd := Rs.put s.hd m.src }
def lrA (s : Nd) (m : Rf.Msg) : Nd := { lr0 s m with nx := Rs.upd s.nx m.src (min (max (s.mt m.src) m.hint + 1) (s.fin + 1)) }
def lrB (s : Nd) (m : Rf.Msg) : Nd := { lr0 s m with mt := Rs.upd s.mt m.src m.idx, nx := Rs.upd s.nx m.src (m.idx + 1) }
theorem learns_eq : Rs.learns c m s = if m.rej = true then (if m.idx + 1 = s.nx m.src then (lrA s m, [Rs.app c (lrA s m) m.src]) else (lr0 s m, [])) else if s.mt m.src < m.idx then
    (if s.commit < (Rs.count c (lrB s m)).commit then (Rs.count c (lrB s m), Rs.apps c (Rs.count c (lrB s m))) else if m.idx + 1 ≤ s.fin then (Rs.count c (lrB s m), [Rs.app c (Rs.count c (lrB s m)) m.src]) else (Rs.count c (lrB s m), [])) else (lr0 s m, []) := by
  unfold Rs.learns
  have e : (Rs.count c (lrB s m)).nx m.src = m.idx + 1 := by show Rs.upd s.nx m.src _ m.src = _; simp [Rs.upd]
  by_cases h1 : m.rej = true
  · simp only [h1, if_true]; rfl
  · simp only [if_neg h1]
    by_cases h2 : s.mt m.src < m.idx
    · rw [if_pos (by exact h2), if_pos h2]
      have e2 : (Rs.count c (lrB s m)).nx m.src ≤ (Rs.count c (lrB s m)).fin ↔ m.idx + 1 ≤ s.fin := by rw [e]; rfl
      show (if s.commit < (Rs.count c (lrB s m)).commit then _ else if (Rs.count c (lrB s m)).nx m.src ≤ (Rs.count c (lrB s m)).fin then _ else _) = _
      by_cases h3 : s.commit < (Rs.count c (lrB s m)).commit
      · rw [if_pos h3, if_pos h3]; rfl
      · rw [if_neg h3, if_neg h3]
        by_cases h4 : m.idx + 1 ≤ s.fin
        · rw [if_pos (e2.2 h4), if_pos h4]; rfl
        · rw [if_neg (fun hc => h4 (e2.1 hc)), if_neg h4]; rfl
    · rw [if_neg (by exact h2), if_neg h2]; rfl
theorem learns_same : (Rs.learns c m s).1.role = s.role ∧ (Rs.learns c m s).1.id = s.id ∧ (Rs.learns c m s).1.heir = s.heir ∧ (Rs.learns c m s).1.log = s.log ∧ (Rs.learns c m s).2.length ≤ 1 + (oth c s).length := by
  rw [learns_eq]
  have : ∀ s1 : Nd, s1.id = s.id → (Rs.apps c s1).length = (oth c s).length := fun s1 h => by rw [apps_len]; unfold oth; rw [h]
  split
  · split
    · exact ⟨rfl, rfl, rfl, rfl, by simp⟩
    · exact ⟨rfl, rfl, rfl, rfl, by simp⟩
  · split
    · split
      · exact ⟨rfl, rfl, rfl, rfl, by have := this (Rs.count c (lrB s m)) rfl; show (Rs.apps c (Rs.count c (lrB s m))).length ≤ _; omega⟩
      · split
        · exact ⟨rfl, rfl, rfl, rfl, by simp⟩
        · exact ⟨rfl, rfl, rfl, rfl, by simp⟩
    · exact ⟨rfl, rfl, rfl, rfl, by simp⟩
theorem Sn.lr {s' : Nd} (hs : Sn c s) (h1 : s'.id = s.id := by rfl) (h2 : s'.term = s.term := by rfl) (h3 : s'.snap = s.snap := by rfl) (h4 : s'.commit = s.commit := by rfl) (h5 : s'.log = s.log := by rfl) (h6 : s'.elapsed = s.elapsed := by rfl) (h7 : s'.beat = s.beat := by rfl) : Sn c s' :=
  Sn.el' hs h1 h2 h3 h4 h5 (by rw [h6, h7]; exact hs.el)
theorem Sn.learns (hs : Sn c s) : Sn c (Rs.learns c m s).1 := by
  rw [learns_eq]
  have hB : Sn c (Rs.count c (lrB s m)) := (Sn.lr hs (s' := lrB s m)).count
  split
  · split
    · exact Sn.lr hs
    · exact Sn.lr hs
  · split
    · split
      · exact hB
      · split
        · exact hB
        · exact hB
    · exact Sn.lr hs
theorem appendReply_n (hs : Sn c s) (hm : ms.length ≤ 300) (hr : s.role = 4) (hy : m.src ∈ oth c s) (hl : Ld c s) (hi : m.rej = false → m.idx ≤ s.log.length) (hb : m.idx ≤ 1099511627776 ∧ m.hint ≤ 1099511627776) :
    Fn Tryz.prog 145 [pt p, .agg (encM m A cp).toArray].toArray [NodS p c bs d l0 fl s ms] (Det (.tuple #[]) [NodS p c bs d l0 fl (Rs.appendReply c m s).1 (ms ++ (Rs.appendReply c m s).2)]) := by
  have hyl := oth_le hy
  have hn := hs.n
  have hsf := hs.fin
  have hly := hl _ hy
  have hol := oth_len (c := c) (s := s) hn.2
  have hlN : LdN c s := fun y hy => ⟨(hl y hy).1, (hl y hy).2.1⟩
  obtain ⟨k1, k2, k3, k4, k5⟩ := learns_same (c := c) (m := m) (s := s)
  have hsl := Sn.learns (m := m) hs
  unfold Rs.appendReply
  rw [if_neg (by simpa using hr)]
  generalize hL : Rs.learns c m s = L at k1 k2 k3 k4 k5 hsl ⊢
  obtain ⟨s', o⟩ := L
  dsimp only at k1 k2 k3 k4 k5 hsl ⊢
  refine Fn.enter Tryz.func145 rfl (by kernel_rfl) rfl ?_
  refine run ?_
  refine .box fun z => ?_
  refine run ?_
  refine .first (NodS p c bs d l0 fl s ms) ?_
  refine .nod fun h hh => ?_
  have hE : ∀ s', s'.log = s.log → HwOk bs s' h → Sn c s' → FnQ Tryz.prog 57 [pt p].toArray [Nb true p c h s' ⟨d, ms.length, fr l0 s'.log, fl.1, fl.2⟩] (nv s.log.length) := fun s' h1 h2 h3 => by rw [← h1]; exact end_q (h3.at h2)
  refine .first (Rp c h s) ?_
  refine .rp4 hr fun bm bn bh g1 g2 g3 => ?_
  by_cases hheir : s.heir = m.src
  case' pos =>
    have e : (ms ++ if s'.heir = m.src ∧ s'.mt m.src = s'.fin then o ++ [Rs.over s' m.src] else o) = if s'.mt s'.heir = s'.log.length then ms ++ o ++ [Rs.over s' s'.heir] else ms ++ o := by
      rw [k3, hheir]
      by_cases hq : s'.mt m.src = s'.log.length
      · rw [if_pos ⟨rfl, hq⟩, if_pos hq, List.append_assoc]
      · rw [if_neg (fun hc => hq hc.2), if_neg hq]
    rw [e]
  case' neg =>
    have e : (ms ++ if s'.heir = m.src ∧ s'.mt m.src = s'.fin then o ++ [Rs.over s' m.src] else o) = ms ++ o := by rw [if_neg (fun hc => hheir (k3.symm.trans hc.1))]
    rw [e]
  all_goals
    refine run ?_
    refine .putB (b := bh) (l := s.hd) m.src (by unfold okN; omega) ?_ (hx := by rw [← g3]; exact rfl)
    cases hj : m.rej with
    | true =>
      refine run ?_
      refine W.hit 18 rfl (by rw [hj] : _ = .bool true) ?_
      refine run ?_
      refine W.plan [] mixed (by rfl) (by kernel_rfl) ?_
      refine run ?_
      refine .lookI (b := bn) (f := s.nx) m.src (by unfold okN; omega) hy ?_ (hx := by rw [← g2]; exact rfl)
      by_cases h1 : m.idx + 1 = s.nx m.src
      · have hlr : Rs.learns c m s = (lrA s m, [Rs.app c (lrA s m) m.src]) := by rw [learns_eq, if_pos hj, if_pos h1]
        refine run ?_
        refine W.plan [16] mixed (by rfl) (by kernel_rfl) ?_
        refine run ?_
        refine .lookI (b := bm) (f := s.mt) m.src (by unfold okN; omega) hy ?_ (hx := by rw [← g1]; exact rfl)
        refine run ?_
        refine RG.hit 44 rfl (by congr 1; omega : _ = nv (max (s.mt m.src) m.hint)) ?_
        refine run ?_
        refine .callQ (hE (lr0 s m) rfl hh (Sn.lr hs)) ?_
        refine run ?_
        refine RG.hit 49 rfl (by congr 1; omega : _ = nv (min (max (s.mt m.src) m.hint + 1) (s.log.length + 1))) ?_
        refine .putI (b := bn) (f := s.nx) m.src (min (max (s.mt m.src) m.hint + 1) (s.log.length + 1)) (by unfold okN; omega) hy ?_ (hx := by rw [← g2]; exact rfl)
        refine run ?_
        refine .ent ((Picks.ent (a := [MI bm (lrA s m).mt (oth c s), MI bn (lrA s m).nx (oth c s), MB bh (lrA s m).hd]) picks).trans (Rp.c4 (c := c) (h := h) (s := lrA s m) hr g1 g2 g3)) ?_
        refine .shutS (l0 := l0) h h (lrA s m) (lrA s m) hh ?_
        refine .callD (sendTo_n (s := lrA s m) (to := m.src) (c := c) (bs := bs) (d := d) (l0 := l0) (fl := fl) (ms := ms) (Sn.lr hs) hr hy (by show 1 ≤ Rs.upd s.nx m.src _ m.src ∧ Rs.upd s.nx m.src _ m.src ≤ s.log.length + 1; simp only [Rs.upd, if_true]; show 1 ≤ min _ (s.log.length + 1) ∧ min _ (s.log.length + 1) ≤ _; omega) (by omega)) ?_
        refine run ?_
        have hx2 : (lrA s m).heir = s.heir := rfl
        refine .first (NodS p c bs d l0 fl (lrA s m) (ms ++ [Rs.app c (lrA s m) m.src])) ?_
        refine .nod fun h hh => ?_
        refine run ?_
        refine .shutS (l0 := l0) h h (lrA s m) (lrA s m) hh ?_
        obtain ⟨q1, q2⟩ := Prod.mk.inj (hL.symm.trans hlr)
        have e1 : NodS p c bs d l0 fl (lrA s m) (ms ++ [Rs.app c (lrA s m) m.src]) = NodS p c bs d l0 fl s' (ms ++ o) := by rw [q1, q2]
        rw [e1]
        first
        | (refine .callD (handed_n (s := s') (c := c) (p := p) (bs := bs) (d := d) (l0 := l0) (fl := fl) (ms := ms ++ o) hsl (k1.trans hr) (by rw [k3, hheir]; unfold oth; rw [k2]; exact hy) (by rw [List.length_append]; omega)) ?_; refine run ?_; exact .doneD Tryz.func145)
        | exact .doneD Tryz.func145
      · have hlr : Rs.learns c m s = (lr0 s m, []) := by rw [learns_eq, if_pos hj, if_neg h1]
        refine run ?_
        refine .ent ((Picks.ent (a := [MI bm (lr0 s m).mt (oth c s), MI bn (lr0 s m).nx (oth c s), MB bh (lr0 s m).hd]) picks).trans (Rp.c4 (c := c) (h := h) (s := lr0 s m) hr g1 g2 g3)) ?_
        refine .shutS (l0 := l0) h h (lr0 s m) (lr0 s m) hh ?_
        obtain ⟨q1, q2⟩ := Prod.mk.inj (hL.symm.trans hlr)
        have e1 : NodS p c bs d l0 fl (lr0 s m) ms = NodS p c bs d l0 fl s' (ms ++ o) := by rw [q1, q2, List.append_nil]
        rw [e1]
        first
        | (refine .callD (handed_n (s := s') (c := c) (p := p) (bs := bs) (d := d) (l0 := l0) (fl := fl) (ms := ms ++ o) hsl (k1.trans hr) (by rw [k3, hheir]; unfold oth; rw [k2]; exact hy) (by rw [List.length_append]; omega)) ?_; refine run ?_; exact .doneD Tryz.func145)
        | exact .doneD Tryz.func145
    | false =>
      have hi' := hi hj
      refine run ?_
      refine W.hit 18 rfl (by rw [hj] : _ = .bool false) ?_
      refine run ?_
      refine W.plan [] mixed (by rfl) (by kernel_rfl) ?_
      refine run ?_
      refine .lookI (b := bm) (f := s.mt) m.src (by unfold okN; omega) hy ?_ (hx := by rw [← g1]; exact rfl)
      by_cases h1 : s.mt m.src < m.idx
      · have hlr0 : Rs.learns c m s = if s.commit < (Rs.count c (lrB s m)).commit then (Rs.count c (lrB s m), Rs.apps c (Rs.count c (lrB s m))) else if m.idx + 1 ≤ s.fin then (Rs.count c (lrB s m), [Rs.app c (Rs.count c (lrB s m)) m.src]) else (Rs.count c (lrB s m), []) := by rw [learns_eq, if_neg (by simp [hj]), if_pos h1]
        have hB : Sn c (Rs.count c (lrB s m)) := (Sn.lr hs (s' := lrB s m)).count
        have hnB : LdN c (Rs.count c (lrB s m)) := fun y hy' => by
          show 1 ≤ Rs.upd s.nx m.src _ y ∧ Rs.upd s.nx m.src _ y ≤ s.log.length + 1
          unfold Rs.upd
          split
          · omega
          · exact hlN y hy'
        refine run ?_
        refine W.planT [Blk true z (encM m A cp) 59] [2011, 2013] mixed (by rfl) (by kernel_rfl) ?_ picks
        refine run ?_
        refine .act rfl rfl rfl rfl (O.mapEntry (venc := nv) (zb := 0) (b := bm) (l := mi s.mt (oth c s)) K3 (i := m.src) rfl rfl rfl zero3 (by rw [← g1]; exact rfl) rfl (by unfold okN; omega) pick) ?_
        rintro v L ⟨st, u, rfl, rfl⟩
        refine run ?_
        refine .det0 rfl rfl rfl (O.entryStore (venc := nv) (b := bm) (l := mi s.mt (oth c s)) (v := m.idx) K3 rfl (by rw [← g1]; exact rfl) rfl rfl pick) ?_
        rw [kput_mi (f := s.mt) hy]
        refine run ?_
        refine .act rfl rfl rfl rfl (O.mapEntry (venc := nv) (zb := 0) (b := bn) (l := mi s.nx (oth c s)) K3 (i := m.src) rfl rfl rfl zero3 (by rw [← g2]; exact rfl) rfl (by unfold okN; omega) pick) ?_
        rintro v L ⟨st, u, rfl, rfl⟩
        refine run ?_
        refine .det0 rfl rfl rfl (O.entryStore (venc := nv) (b := bn) (l := mi s.nx (oth c s)) (v := m.idx + 1) K3 rfl (by rw [← g2]; exact rfl) rfl rfl pick) ?_
        rw [kput_mi (f := s.nx) hy]
        refine run ?_
        refine .callD (count_ok (c := c) (h := h) (s := lrB s m) (x := ⟨d, ms.length, fr l0 s.log, fl.1, fl.2⟩) (p := p) (b := bm) ((Sn.lr hs (s' := lrB s m)).at hh) g1) ?_
        by_cases h2 : s.commit < (Rs.count c (lrB s m)).commit
        · have hlr : Rs.learns c m s = (Rs.count c (lrB s m), Rs.apps c (Rs.count c (lrB s m))) := by rw [hlr0, if_pos h2]
          refine run ?_
          refine .ent ((Picks.ent (a := [MI bm (Rs.count c (lrB s m)).mt (oth c s), MI bn (Rs.count c (lrB s m)).nx (oth c s), MB bh (Rs.count c (lrB s m)).hd]) picks).trans (Rp.c4 (c := c) (h := h) (s := Rs.count c (lrB s m)) hr g1 g2 g3)) ?_
          refine .shutS (l0 := l0) h h (Rs.count c (lrB s m)) (Rs.count c (lrB s m)) hh ?_
          refine .callD (sendAll_n (s := Rs.count c (lrB s m)) (c := c) (bs := bs) (d := d) (l0 := l0) (fl := fl) (ms := ms) hB hr hnB (by omega)) ?_
          refine run ?_
          have hx2 : (Rs.count c (lrB s m)).heir = s.heir := rfl
          refine .first (NodS p c bs d l0 fl (Rs.count c (lrB s m)) (ms ++ Rs.apps c (Rs.count c (lrB s m)))) ?_
          refine .nod fun h hh => ?_
          refine run ?_
          refine .shutS (l0 := l0) h h (Rs.count c (lrB s m)) (Rs.count c (lrB s m)) hh ?_
          obtain ⟨q1, q2⟩ := Prod.mk.inj (hL.symm.trans hlr)
          have e1 : NodS p c bs d l0 fl (Rs.count c (lrB s m)) (ms ++ Rs.apps c (Rs.count c (lrB s m))) = NodS p c bs d l0 fl s' (ms ++ o) := by rw [q1, q2]
          rw [e1]
          first
          | (refine .callD (handed_n (s := s') (c := c) (p := p) (bs := bs) (d := d) (l0 := l0) (fl := fl) (ms := ms ++ o) hsl (k1.trans hr) (by rw [k3, hheir]; unfold oth; rw [k2]; exact hy) (by rw [List.length_append]; omega)) ?_; refine run ?_; exact .doneD Tryz.func145)
          | exact .doneD Tryz.func145
        · refine run ?_
          refine W.plan [7] mixed (by rfl) (by kernel_rfl) ?_
          refine run ?_
          refine .lookI (b := bn) (f := (lrB s m).nx) m.src (by unfold okN; omega) hy ?_ (hx := by rw [← g2]; exact rfl)
          refine RG.hit 101 rfl (by show nv (Rs.upd s.nx m.src _ m.src) = _; simp only [Rs.upd, if_true] : _ = nv (m.idx + 1)) ?_
          refine run ?_
          refine .callQ (hE (Rs.count c (lrB s m)) rfl hh hB) ?_
          by_cases h3 : m.idx + 1 ≤ s.log.length
          · have hlr : Rs.learns c m s = (Rs.count c (lrB s m), [Rs.app c (Rs.count c (lrB s m)) m.src]) := by rw [hlr0, if_neg h2]; exact if_pos h3
            refine run ?_
            refine .ent ((Picks.ent (a := [MI bm (Rs.count c (lrB s m)).mt (oth c s), MI bn (Rs.count c (lrB s m)).nx (oth c s), MB bh (Rs.count c (lrB s m)).hd]) picks).trans (Rp.c4 (c := c) (h := h) (s := Rs.count c (lrB s m)) hr g1 g2 g3)) ?_
            refine .shutS (l0 := l0) h h (Rs.count c (lrB s m)) (Rs.count c (lrB s m)) hh ?_
            refine .callD (sendTo_n (s := Rs.count c (lrB s m)) (to := m.src) (c := c) (bs := bs) (d := d) (l0 := l0) (fl := fl) (ms := ms) (hB) hr hy (hnB _ hy) (by omega)) ?_
            refine run ?_
            have hx2 : (Rs.count c (lrB s m)).heir = s.heir := rfl
            refine .first (NodS p c bs d l0 fl (Rs.count c (lrB s m)) (ms ++ [Rs.app c (Rs.count c (lrB s m)) m.src])) ?_
            refine .nod fun h hh => ?_
            refine run ?_
            refine .shutS (l0 := l0) h h (Rs.count c (lrB s m)) (Rs.count c (lrB s m)) hh ?_
            obtain ⟨q1, q2⟩ := Prod.mk.inj (hL.symm.trans hlr)
            have e1 : NodS p c bs d l0 fl (Rs.count c (lrB s m)) (ms ++ [Rs.app c (Rs.count c (lrB s m)) m.src]) = NodS p c bs d l0 fl s' (ms ++ o) := by rw [q1, q2]
            rw [e1]
            first
            | (refine .callD (handed_n (s := s') (c := c) (p := p) (bs := bs) (d := d) (l0 := l0) (fl := fl) (ms := ms ++ o) hsl (k1.trans hr) (by rw [k3, hheir]; unfold oth; rw [k2]; exact hy) (by rw [List.length_append]; omega)) ?_; refine run ?_; exact .doneD Tryz.func145)
            | exact .doneD Tryz.func145
          · have hlr : Rs.learns c m s = (Rs.count c (lrB s m), []) := by rw [hlr0, if_neg h2]; exact if_neg h3
            have hx2 : (Rs.count c (lrB s m)).heir = s.heir := rfl
            refine run ?_
            refine .ent ((Picks.ent (a := [MI bm (Rs.count c (lrB s m)).mt (oth c s), MI bn (Rs.count c (lrB s m)).nx (oth c s), MB bh (Rs.count c (lrB s m)).hd]) picks).trans (Rp.c4 (c := c) (h := h) (s := Rs.count c (lrB s m)) hr g1 g2 g3)) ?_
            refine .shutS (l0 := l0) h h (Rs.count c (lrB s m)) (Rs.count c (lrB s m)) hh ?_
            obtain ⟨q1, q2⟩ := Prod.mk.inj (hL.symm.trans hlr)
            have e1 : NodS p c bs d l0 fl (Rs.count c (lrB s m)) ms = NodS p c bs d l0 fl s' (ms ++ o) := by rw [q1, q2, List.append_nil]
            rw [e1]
            first
            | (refine .callD (handed_n (s := s') (c := c) (p := p) (bs := bs) (d := d) (l0 := l0) (fl := fl) (ms := ms ++ o) hsl (k1.trans hr) (by rw [k3, hheir]; unfold oth; rw [k2]; exact hy) (by rw [List.length_append]; omega)) ?_; refine run ?_; exact .doneD Tryz.func145)
            | exact .doneD Tryz.func145
      · have hlr : Rs.learns c m s = (lr0 s m, []) := by rw [learns_eq, if_neg (by simp [hj]), if_neg h1]
        refine run ?_
        refine .ent ((Picks.ent (a := [MI bm (lr0 s m).mt (oth c s), MI bn (lr0 s m).nx (oth c s), MB bh (lr0 s m).hd]) picks).trans (Rp.c4 (c := c) (h := h) (s := lr0 s m) hr g1 g2 g3)) ?_
        refine .shutS (l0 := l0) h h (lr0 s m) (lr0 s m) hh ?_
        obtain ⟨q1, q2⟩ := Prod.mk.inj (hL.symm.trans hlr)
        have e1 : NodS p c bs d l0 fl (lr0 s m) ms = NodS p c bs d l0 fl s' (ms ++ o) := by rw [q1, q2, List.append_nil]
        rw [e1]
        first
        | (refine .callD (handed_n (s := s') (c := c) (p := p) (bs := bs) (d := d) (l0 := l0) (fl := fl) (ms := ms ++ o) hsl (k1.trans hr) (by rw [k3, hheir]; unfold oth; rw [k2]; exact hy) (by rw [List.length_append]; omega)) ?_; refine run ?_; exact .doneD Tryz.func145)
        | exact .doneD Tryz.func145
end
end Go.SL
