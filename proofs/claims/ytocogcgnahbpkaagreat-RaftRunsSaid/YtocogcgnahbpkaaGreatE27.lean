/-
  A part of the proof of what E53 says at its head.
-/
import Derived.Test.YtocogcgnahbpkaaGreatE10
import Derived.Test.YtocogcgnahbpkaaGreatE26
namespace Go.SL
open Go.Proofs Go.Proofs.YtocogcgnahbpkaaGreat
open Rs (Nd)
set_option maxRecDepth 10000
attribute [local irreducible] W RS RG RD Fn FnQ OpS QOp Own Sat Rd Gr Mp Rg Lg Ms Es Nod Rp NodI RLg RMs REs RN RLd RNF
section
variable {c : Cfg} {h : RW} {s : Nd} {x : RX} {p : Nat} {q : Bool} {d : Int} {ms : List Rf.Msg} {m : Rf.Msg} {A : Option Addr} {cp : Nat} {l0 : List Rf.Ent} {fl : Nat × Nat}
theorem rvote_n (hs : Sn c s) (hm : ms.length ≤ 300) :
    Fn Tryz.prog 124 [pt p, .agg (encM m A cp).toArray, iv d].toArray [RNS p c l0 fl s ms] (Det (.tuple #[]) [RNS p c l0 fl (Rs.vote c d m s).1 (ms ++ (Rs.vote c d m s).2)]) := by
  unfold Rs.vote
  have hcf := hs.cf
  have hS := rsay_n (p := p) (c := c) (l0 := l0) (fl := fl) (ms := ms) (s := s) (m := { kind := 4, src := 0, dst := m.src, term := 0, rej := true }) (A := none) (cp := 0) (by omega) (by show 4 ≠ 7; omega)
  refine Fn.enter Tryz.func124 rfl (by kernel_rfl) rfl ?_
  refine run ?_
  refine .box fun z => ?_
  refine run ?_
  refine .first (RNS p c l0 fl s ms) ?_
  refine .rn fun h hh => ?_
  have hG := rgood_q (x := rxS ms.length (snL ms).length (fr l0 s.log) fl) (p := p) (q := true) (m := m) (A := A) (cp := cp) (hh.rm hs)
  refine W.plan [] mixed (by rfl) (by kernel_rfl) ?_
  by_cases h1 : s.vote = m.src ∨ (s.vote = 0 ∧ s.leader = 0)
  · by_cases h2 : s.vote = m.src
    case' pos =>
      refine run ?_
    case' neg =>
      obtain ⟨h3, h4⟩ := h1.resolve_left h2
      refine run ?_
    all_goals
      refine .callQ hG ?_
      cases hg : Rs.good m s with
      | true =>
        rw [if_pos ⟨rfl, h1⟩]
        refine run ?_
        refine .callD (rrest_ok (c := c) (h := h) (x := rxS ms.length (snL ms).length (fr l0 s.log) fl) (s := { s with vote := m.src }) hcf) ?_
        refine run ?_
        refine .rshut h (Rs.rest c d { s with vote := m.src }) (rxS ms.length (snL ms).length (fr l0 s.log) fl) hh ?_
        refine .ent (nilRLg (i := 0)) ?_
        refine .callD (rsay_n (p := p) (c := c) (l0 := l0) (fl := fl) (ms := ms) (s := Rs.rest c d { s with vote := m.src }) (m := { kind := 4, src := 0, dst := m.src, term := 0 }) (A := none) (cp := 0) (by omega) (by show 4 ≠ 7; omega)) ?_
        refine run ?_
        exact .doneD Tryz.func124
      | false =>
        rw [if_neg (by simp)]
        refine run ?_
        refine .rshut h s (rxS ms.length (snL ms).length (fr l0 s.log) fl) hh ?_
        refine .ent (nilRLg (i := 0)) ?_
        refine .callD hS ?_
        refine run ?_
        exact .retD Tryz.func124
  · rw [if_neg (fun hc => h1 hc.2)]
    have h2 : s.vote ≠ m.src := fun e => h1 (.inl e)
    by_cases h3 : s.vote = 0
    case' pos =>
      have h4 : s.leader ≠ 0 := fun e => h1 (.inr ⟨h3, e⟩)
      refine run ?_
    case' neg =>
      refine run ?_
    all_goals
      refine .rshut h s (rxS ms.length (snL ms).length (fr l0 s.log) fl) hh ?_
      refine .ent (nilRLg (i := 0)) ?_
      refine .callD hS ?_
      refine run ?_
      exact .retD Tryz.func124
theorem rvoteReply_n (hs : Sn c s) (hm : ms.length ≤ 300) (hg : s.gr.length ≤ 1000) (hrf : s.rf.length ≤ 1000) (hr : s.log.length < 65536) :
    Fn Tryz.prog 125 [pt p, .agg (encM m A cp).toArray, iv d].toArray [RNS p c s.log fl s ms] (Det (.tuple #[]) [RNS p c s.log fl (Rs.voteReply c d m s).1 (ms ++ (Rs.voteReply c d m s).2)]) := by
  unfold Rs.voteReply
  refine Fn.enter Tryz.func125 rfl (by kernel_rfl) rfl ?_
  refine run ?_
  refine .box fun z => ?_
  refine run ?_
  refine .first (RNS p c s.log fl s ms) ?_
  refine .rn fun h hh => ?_
  have hRG := graR (h := h) (s := s)
  have hRF := refR (h := h) (s := s)
  by_cases h2 : s.role = 3
  · rw [if_neg (by simpa using h2)]
    by_cases hj : m.rej = false
    · rw [if_pos hj]
      refine run ?_
      refine W.hit 14 rfl (by rw [hj] : _ = .bool false) ?_
      refine run ?_
      refine .ent (Ent.mk (X := Gr 1 3 none 0 0 []) fun r => .nil) ?_
      refine W.loopH (ι := Nat × Option Addr × Nat) (fun i => i.1 ≤ s.rf.length) (fun i => [(0, pt p), (2, iv d), (4, pt z), (6, .slice i.2.1 ((s.rf.take i.1).filter (· ≠ m.src)).length i.2.2), (7, nv i.1)])
        (fun i => [Gr 1 3 i.2.1 ((s.rf.take i.1).filter (· ≠ m.src)).length i.2.2 ((li ((s.rf.take i.1).filter (· ≠ m.src))).map iv), Blk true z (encM m A cp) 59, Rb true p c h s (rxS ms.length (snL ms).length (fr s.log s.log) fl), RLgN h s, OthG c h s, GraG h s, RefG h s, RMs h.mA ms.length h.mc ms, SnpG h (rxS ms.length (snL ms).length (fr s.log s.log) fl) ms])
        (fun i => s.rf.length - i.1) (0, none, 0) (Nat.zero_le _) subs (Picks.sub picks) ?_
      rintro ⟨k, A1, c1⟩ hk ih
      dsimp only at hk ih ⊢
      have hfl := List.length_filter_le (fun q => decide (q ≠ m.src)) (s.rf.take k)
      rw [List.length_take] at hfl
      by_cases hlt : k < s.rf.length
      · obtain ⟨y, hy⟩ : ∃ y, s.rf[k]? = some y := ⟨_, List.getElem?_eq_getElem hlt⟩
        have htk : s.rf.take (k + 1) = s.rf.take k ++ [y] := by rw [List.take_add_one, hy]; rfl
        have hyi : ((li s.rf).map iv)[k]? = some (nv y) := by unfold li; simp [hy]
        refine W.fact (fun w h' => IsA.of (k := k) hRF (by exact pick) (by unfold li; simpa using hlt) h') fun hA => ?_
        by_cases h3 : y = m.src
        · subst h3
          refine run ?_
          refine W.plan [] mixed (by rfl) (by kernel_rfl) ?_
          refine run ?_
          refine RG.take rfl rfl rfl rfl (R.load (v := nv m.src) rfl rfl rfl rfl hRF pick (by rw [Nat.mul_one]; exact hyi)) ?_ rfl
          refine run ?_
          have h4 := ih (k + 1, A1, c1) hlt (by dsimp only; omega)
          dsimp only at h4
          rw [htk, List.filter_append, List.filter_cons_of_neg (by simp), List.filter_nil, List.append_nil] at h4
          exact .back h4
        · refine run ?_
          refine W.plan [] mixed (by rfl) (by kernel_rfl) ?_
          refine run ?_
          refine RG.take rfl rfl rfl rfl (R.load (v := nv y) rfl rfl rfl rfl hRF pick (by rw [Nat.mul_one]; exact hyi)) ?_ rfl
          refine run ?_
          refine .quiet rfl rfl rfl (R.load (v := nv y) rfl rfl rfl rfl hRF pick (by rw [Nat.mul_one]; exact hyi)) ?_
          refine run ?_
          refine .lit fun z2 => ?_
          refine run ?_
          refine .push (sz := 1) (m := 1) (Src.pick rfl rfl .hd .own rfl rfl rfl) fun A2 c2 => ?_
          refine run ?_
          have h4 := ih (k + 1, A2, c2) hlt (by dsimp only; omega)
          dsimp only at h4
          rw [htk, List.filter_append, List.filter_cons_of_pos (by simpa using h3), List.filter_nil, li_snoc, List.length_append] at h4
          exact .back h4
      · have hkl : k = s.rf.length := by omega
        subst hkl
        rw [List.take_length]
        rw [List.take_length] at hfl
        refine run ?_
        generalize hrf2 : s.rf.filter (· ≠ m.src) = rf2 at hfl ⊢
        refine W.plan [6] mixed (by rfl) (by kernel_rfl) ?_
        refine run ?_
        refine .callQ (rhasN_q (l := s.gr) (v := m.src) hRG (by omega)) ?_
        by_cases hin : m.src ∈ s.gr
        case pos =>
          have ep : Rs.put s.gr m.src = s.gr := if_pos hin
          have hs1 : Sn c { s with rf := rf2 } := Sn.el' hs rfl rfl rfl rfl rfl hs.el
          rw [ep]
          rw [decide_eq_true hin]
          refine run ?_
          refine .callQ (v := .bool (Rs.maj c s.gr.length)) (many_q (p := p) (c := c) (h := { h with rA := A1, rc := c1 }) (s := { s with rf := rf2 }) (x := rxS ms.length (snL ms).length (fr s.log s.log) fl) (q := true) s.gr.length (by omega)) ?_
          refine .rshut { h with rA := A1, rc := c1 } { s with rf := rf2 } (rxS ms.length (snL ms).length (fr s.log s.log) fl) hh ?_
          cases hmj : Rs.maj c s.gr.length with
          | true =>
            rw [if_pos rfl]
            refine run ?_
            refine .callD (rlead_n (s := { s with rf := rf2 }) (c := c) (p := p) (fl := fl) (ms := ms) hs1 hm hr) ?_
            refine run ?_
            exact .doneD Tryz.func125
          | false =>
            rw [if_neg (by simp)]
            dsimp only; rw [List.append_nil]
            refine run ?_
            exact .doneD Tryz.func125
        case neg =>
          have ep : Rs.put s.gr m.src = s.gr ++ [m.src] := if_neg hin
          have hs1 : Sn c { s with rf := rf2, gr := s.gr ++ [m.src] } := Sn.el' hs rfl rfl rfl rfl rfl hs.el
          rw [ep]
          rw [decide_eq_false hin]
          refine run ?_
          refine W.plan [] mixed (by rfl) (by kernel_rfl) ?_
          refine run ?_
          refine .lit fun z2 => ?_
          refine run ?_
          refine .push (sz := 1) (nn := s.gr.length) (m := 1) (Src.pick rfl rfl .hd .own rfl rfl rfl) fun A2 c2 => ?_
          rw [show s.gr.length + 1 = (s.gr ++ [m.src]).length by simp]
          refine run ?_
          refine .callQ (v := .bool (Rs.maj c (s.gr ++ [m.src]).length)) (many_q (p := p) (c := c) (h := { h with rA := A1, rc := c1, gA := A2, gc := c2 }) (s := { s with rf := rf2, gr := s.gr ++ [m.src] }) (x := rxS ms.length (snL ms).length (fr s.log s.log) fl) (q := true) (s.gr ++ [m.src]).length (by simp; omega)) ?_
          refine .ent ((Picks.ent (a := [Gr 1 3 A2 (s.gr ++ [m.src]).length c2 ((li s.gr).map iv ++ [nv m.src])]) picks).trans (Ent.of (Y := GraG { h with rA := A1, rc := c1, gA := A2, gc := c2 } { s with rf := rf2, gr := s.gr ++ [m.src] }) fun r hr => by rw [GraG, li_snoc]; exact hr)) ?_
          refine .rshut { h with rA := A1, rc := c1, gA := A2, gc := c2 } { s with rf := rf2, gr := s.gr ++ [m.src] } (rxS ms.length (snL ms).length (fr s.log s.log) fl) hh ?_
          dsimp only at hs1 ⊢
          generalize hg2 : s.gr ++ [m.src] = g2 at hs1 ⊢
          cases hmj : Rs.maj c g2.length with
          | true =>
            rw [if_pos rfl]
            refine run ?_
            refine .callD (rlead_n (s := { s with rf := rf2, gr := g2 }) (c := c) (p := p) (fl := fl) (ms := ms) hs1 hm hr) ?_
            refine run ?_
            exact .doneD Tryz.func125
          | false =>
            rw [if_neg (by simp)]
            dsimp only; rw [List.append_nil]
            refine run ?_
            exact .doneD Tryz.func125
    · rw [if_neg hj]
      have hj : m.rej = true := by simpa using hj
      refine run ?_
      refine W.hit 14 rfl (by rw [hj] : _ = .bool true) ?_
      refine run ?_
      refine W.plan [6, 15] mixed (by rfl) (by kernel_rfl) ?_
      refine run ?_
      refine .callQ (rhasN_q (l := s.gr) (v := m.src) hRG (by omega)) ?_
      by_cases hin : m.src ∈ s.gr
      · rw [if_pos hin, decide_eq_true hin]
        refine run ?_
        refine .callQ (v := .bool (Rs.maj c s.rf.length)) (many_q (p := p) (c := c) (h := h) (s := s) (x := rxS ms.length (snL ms).length (fr s.log s.log) fl) (q := true) s.rf.length (by omega)) ?_
        refine .rshut h s (rxS ms.length (snL ms).length (fr s.log s.log) fl) hh ?_
        dsimp only
        cases hmj : Rs.maj c s.rf.length with
        | true =>
          rw [if_pos rfl]
          refine run ?_
          refine .first (RNS p c s.log fl s ms) ?_
          refine .rn fun h hh => ?_
          refine run ?_
          refine .callD (rfollow_ok (c := c) (h := h) (s := s) (x := rxS ms.length (snL ms).length (fr s.log s.log) fl) (p := p) (term := s.term) (leader := 0) hs) ?_
          refine run ?_
          refine .rshut (ms := ms) (c := c) (p := p) h (Rs.follow c d s.term 0 s) (rxS ms.length (snL ms).length (fr s.log s.log) fl) hh ?_
          dsimp only; rw [List.append_nil]
          exact .retD Tryz.func125
        | false =>
          rw [if_neg (by simp)]
          dsimp only; rw [List.append_nil]
          refine run ?_
          exact .retD Tryz.func125
      · rw [if_neg hin, decide_eq_false hin]
        refine run ?_
        refine .callQ (rhasN_q (l := s.rf) (v := m.src) hRF (by omega)) ?_
        by_cases hin2 : m.src ∈ s.rf
        case pos =>
          have ep : Rs.put s.rf m.src = s.rf := if_pos hin2
          rw [ep, decide_eq_true hin2]
          refine run ?_
          refine .callQ (v := .bool (Rs.maj c s.rf.length)) (many_q (p := p) (c := c) (h := h) (s := s) (x := rxS ms.length (snL ms).length (fr s.log s.log) fl) (q := true) s.rf.length (by omega)) ?_
          refine .rshut h s (rxS ms.length (snL ms).length (fr s.log s.log) fl) hh ?_
          dsimp only
          cases hmj : Rs.maj c s.rf.length with
          | true =>
            rw [if_pos rfl]
            refine run ?_
            refine .first (RNS p c s.log fl s ms) ?_
            refine .rn fun h hh => ?_
            refine run ?_
            refine .callD (rfollow_ok (c := c) (h := h) (s := s) (x := rxS ms.length (snL ms).length (fr s.log s.log) fl) (p := p) (term := s.term) (leader := 0) hs) ?_
            refine run ?_
            refine .rshut (ms := ms) (c := c) (p := p) h (Rs.follow c d s.term 0 s) (rxS ms.length (snL ms).length (fr s.log s.log) fl) hh ?_
            dsimp only; rw [List.append_nil]
            exact .retD Tryz.func125
          | false =>
            rw [if_neg (by simp)]
            dsimp only; rw [List.append_nil]
            refine run ?_
            exact .retD Tryz.func125
        case neg =>
          have ep : Rs.put s.rf m.src = s.rf ++ [m.src] := if_neg hin2
          have hs1 : Sn c { s with rf := s.rf ++ [m.src] } := Sn.el' hs rfl rfl rfl rfl rfl hs.el
          rw [ep, decide_eq_false hin2]
          refine run ?_
          refine W.plan [] mixed (by rfl) (by kernel_rfl) ?_
          refine run ?_
          refine .lit fun z2 => ?_
          refine run ?_
          refine .push (sz := 1) (nn := s.rf.length) (m := 1) (Src.pick rfl rfl .hd .own rfl rfl rfl) fun A2 c2 => ?_
          rw [show s.rf.length + 1 = (s.rf ++ [m.src]).length by simp]
          refine run ?_
          refine .callQ (v := .bool (Rs.maj c (s.rf ++ [m.src]).length)) (many_q (p := p) (c := c) (h := { h with rA := A2, rc := c2 }) (s := { s with rf := s.rf ++ [m.src] }) (x := rxS ms.length (snL ms).length (fr s.log s.log) fl) (q := true) (s.rf ++ [m.src]).length (by simp; omega)) ?_
          refine .ent ((Picks.ent (a := [Gr 1 3 A2 (s.rf ++ [m.src]).length c2 ((li s.rf).map iv ++ [nv m.src])]) picks).trans (Ent.of (Y := RefG { h with rA := A2, rc := c2 } { s with rf := s.rf ++ [m.src] }) fun r hr => by rw [RefG, li_snoc]; exact hr)) ?_
          refine .rshut { h with rA := A2, rc := c2 } { s with rf := s.rf ++ [m.src] } (rxS ms.length (snL ms).length (fr s.log s.log) fl) hh ?_
          dsimp only at hs1 ⊢
          generalize hg2 : s.rf ++ [m.src] = g2 at hs1 ⊢
          cases hmj : Rs.maj c g2.length with
          | true =>
            rw [if_pos rfl]
            refine run ?_
            refine .first (RNS p c s.log fl { s with rf := g2 } ms) ?_
            refine .rn fun h hh => ?_
            refine run ?_
            refine .callD (rfollow_ok (c := c) (h := h) (s := { s with rf := g2 }) (x := rxS ms.length (snL ms).length (fr s.log s.log) fl) (p := p) (term := s.term) (leader := 0) hs1) ?_
            refine run ?_
            refine .rshut (ms := ms) (c := c) (p := p) h (Rs.follow c d s.term 0 { s with rf := g2 }) (rxS ms.length (snL ms).length (fr s.log s.log) fl) hh ?_
            dsimp only; rw [List.append_nil]
            exact .retD Tryz.func125
          | false =>
            rw [if_neg (by simp)]
            dsimp only; rw [List.append_nil]
            refine run ?_
            exact .retD Tryz.func125
  · rw [if_pos h2]
    refine run ?_
    refine .rshut h s (rxS ms.length (snL ms).length (fr s.log s.log) fl) hh ?_
    dsimp only; rw [List.append_nil]
    exact .retD Tryz.func125
end
end Go.SL
namespace Go.SL
open Go.RowKit
section
variable {P : Program} {n : Nat} {e : Env} {L S : List HP} {o : Oper} [Tab P] {news : List Value}
theorem run_append0 {t tx tr E m sz : Nat} {r re : Row} {x : Value} {w : World} {L : List HP} (ht : ty P t = some r) (hd : r.d = .slice E) (hte : ty P E = some re) (hsz : re.size = sz) (hzl : Nat.beq re.zero.length re.size = true) (hs : Sat w L)
    (hsrc : Src P sz tx x m news w) (h63 : m ≤ maxLen) (hby : m * re.bytes ≤ 140737488355328) :
    ∃ A' c' w', (Builtin.append_ #[t, tx] tr #[.slice none 0 0, x]).run P w = .ok (.slice A' m c') w' ∧ Sat w' (Gr sz E A' m c' news :: L) ∧ Grows w w' := by
  obtain ⟨T⟩ := ty_is ht
  obtain ⟨TE⟩ := ty_is hte
  have hu : P.underlying t = some (.slice E) := by rw [← T.slice hd]; exact T.under
  have hszE : TE.i.size = sz := by rw [TE.size, hsz]
  have h63' : ((m : Nat) : Int) ≤ 9223372036854775807 := by simp only [maxLen] at h63; omega
  by_cases hroom : m = 0
  · subst hroom
    have hn0 := List.eq_nil_of_length_eq_zero (by simpa using hsrc.newsLen)
    subst hn0
    refine ⟨none, 0, w, ?_, hs.ent (Ent.mk fun r => .nil), .refl w⟩
    have h1 := hsrc.len w
    have h2 := hsrc.cells
    rcases hsrc.kind with ⟨e', hk⟩ | hk <;> simp [Builtin.append_, run_underlying hu, run_underlying hk, sizeOf, typeInfo, TE.info, h1, h2, hszE]
  · have holds : (Builtin.firstCells TE.i.size 0 (.slice none 0 0)).run P w.drew = .ok (#[] : Array Value) w.drew := run_firstCells_none (w := w.drew) TE.i.size 0 0 0
    have hr := run_append_grow_src (P := P) w t tx tr E TE.i TE.z hu TE.info TE.zero none 0 0 [] holds x m news (by rw [hszE]; exact hsrc) (by omega) (by omega) (growslice_fits (by omega) (by rw [TE.bytes, Nat.zero_add]; exact hby))
    rw [Nat.zero_add] at hr
    have hge := grownCap_ge w m 0 E
    refine ⟨_, _, _, hr, ?_, ?_⟩
    · have h2 := (hs.grows (w' := w.drew) (.same rfl)).alloc (o := .cells ((([] : List Value) ++ news).toArray ++ Builtin.zeroCells TE.z.cells (grownCap w m 0 E - m)) E (0, 0))
      obtain ⟨q', a1, a2, a3, a4, a5, a6, a7, a8⟩ := h2
      refine ⟨q', a1, a2, a3, a4, a5, a6, ⟨by rw [hsrc.newsLen], .inr ⟨w.heap.size, [], (Builtin.zeroCells TE.z.cells (grownCap w m 0 E - m)).toList, rfl, hge, grownCap_le_maxLen w m 0 E h63, ?_, ?_⟩⟩, a8⟩
      · rw [Array.length_toList, size_zeroCells, ← hsz, TE.cells, List.size_toArray, Nat.eq_of_beq_eq_true hzl]
      · have e2 : ((([] : List Value) ++ news).toArray ++ Builtin.zeroCells TE.z.cells (grownCap w m 0 E - m)) = (news ++ (Builtin.zeroCells TE.z.cells (grownCap w m 0 E - m)).toList).toArray := by simp
        rw [List.nil_append, ← e2]; exact a7
    · exact (Grows.same rfl).trans .alloc
theorem N.append0 {s x : Operand} {t tx E m sz : Nat} {r re : Row} {xv : Value} (ho : o.op = .call ⟨.builtin .append, #[s, x], #[t, tx]⟩) (ht : ty P t = some r) (hd : r.d = .slice E) (hte : ty P E = some re) (hsz : re.size = sz) (hzl : Nat.beq re.zero.length re.size = true)
    (hs : ev e s = some (.slice none 0 0)) (hx : ev e x = some xv) (hsrc : ∀ w, Sat w L → Src P sz tx xv m news w) (h63 : m ≤ maxLen) (hby : m * re.bytes ≤ 140737488355328) :
    OpN P n e L o fun v M => ∃ A' c', v = .slice A' m c' ∧ M = Gr sz E A' m c' news :: L := .run fun F w a h1 h2 => by
  have h4 : Sat w L := h2.fst
  obtain ⟨A', c', w', hr, hs', hg⟩ := run_append0 (x := xv) (tr := o.type) ht hd hte hsz hzl h2 (hsrc w h4) h63 hby
  refine ⟨_, w', _, ?_, ⟨A', c', rfl, rfl⟩, hs', hg⟩
  unfold execOp; rw [ho]
  simp [resolve, h1.eval hs, h1.eval hx, invoke, builtin, hr]
variable {T L' : List HP} {ops : Array Oper} {C : Env → List HP → Prop} {qs : List Nat} {pl : Pl}
theorem RG.copy {j d sz m t tx E : Nat} {oj : Oper} {s x : Operand} {r re : Row} {xv : Value} (hsrc : ∀ w, Sat w L → Src P sz tx xv m news w) (hn : ∀ A' c', RG P n qs T ops pl C ((d, .slice A' m c') :: e) (Gr sz E A' m c' news :: L))
    (hj : ops[j]? = some oj := by exact rfl) (ho : oj.op = .call ⟨.builtin .append, #[s, x], #[t, tx]⟩ := by exact rfl) (ht : ty P t = some r := by exact rfl) (hd : r.d = .slice E := by exact rfl) (hte : ty P E = some re := by exact rfl) (hsz : re.size = sz := by exact rfl) (hzl : Nat.beq re.zero.length re.size = true := by exact rfl)
    (hs : ev e s = some (.slice none 0 0) := by exact rfl) (hx : ev e x = some xv := by exact rfl) (hg : wn ops e oj = some true := by exact rfl) (hdd : oj.dst = some d := by exact rfl) (hf : Nat.blt d n = true := by exact rfl) (h63 : m ≤ maxLen := by unfold maxLen; omega) (hby : m * re.bytes ≤ 140737488355328 := by dsimp only; omega) :
    RG P n qs T ops (.a j pl) C e L :=
  .actN hj hg hdd hf (N.append0 ho ht hd hte hsz hzl hs hx hsrc h63 hby) fun v M ⟨A', c', h1, h2⟩ => by rw [h1, h2]; exact hn A' c'
end
end Go.SL
