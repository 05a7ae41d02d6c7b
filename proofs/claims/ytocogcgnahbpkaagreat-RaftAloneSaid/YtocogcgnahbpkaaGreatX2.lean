/-
  World.step of a node alone: what its four kinds of step make of it.
-/
import Derived.Test.YtocogcgnahbpkaaGreatX3
import Derived.Test.YtocogcgnahbpkaaGreatN12
import Derived.Test.YtocogcgnahbpkaaGreatN14
import Derived.Test.YtocogcgnahbpkaaGreatN15
namespace Go.Proofs.YtocogcgnahbpkaaGreat
open Go.RowKit

/-- What is known of the pointers of a leader. -/
def LQ (c : NC) : Prop := c.mt = [] ∧ ∃ m, c.mtR = some m

theorem LogOK.snoc {l : List E} {t t' : Int} {d : List Int} (h : LogOK l 0 0 t) (ht : t ≤ t') (h1 : 1 ≤ t') (hl : l.length ≤ 100000) : LogOK (l ++ [⟨l.length + 1, t', d⟩]) 0 0 t' := by
  intro k e hk
  rcases Nat.lt_or_ge k l.length with hkl | hkl
  · rw [List.getElem?_append_left hkl] at hk
    obtain ⟨a, b, c, d, f⟩ := h k e hk
    refine ⟨a, b, c, ?_, Int.le_trans f ht⟩
    unfold prevT at d ⊢
    split
    · rename_i h0; rw [if_pos h0] at d; exact d
    · rename_i h0; rw [if_neg h0] at d
      rw [List.getElem?_append_left (by omega)]; exact d
  · rw [List.getElem?_append_right hkl] at hk
    have hk0 : k - l.length = 0 := by
      have := (List.getElem?_eq_some_iff.1 hk).1; simp at this; omega
    rw [hk0] at hk
    simp at hk
    subst hk
    have hke : k = l.length := by omega
    subst hke
    refine ⟨by simp only; omega, by simp only; omega, h1, ?_, Int.le_refl _⟩
    unfold prevT
    split
    · simp only; omega
    · rw [List.getElem?_append_left (by omega)]
      rcases hx : l[l.length - 1]? with _ | x
      · simp; omega
      · have := (h _ x hx).2.2.2.2
        simp; omega

section
variable {w0 : World} (w : World) (bw b1 : Nat) (S F : Nat → Prop) (h : Nat) (g : WG) (s : NS) (c : NC) (L Mo Bt t k draw : Int) (lg : List E) (m0 m1 m2 m3 m4 m5 m6 m7 m8 m9 k12 k13 k14 k15 : Value)

theorem step_wait (hO : One w0 w bw b1 S F h g s c L Mo Bt t lg) (hW : Waits s L k) (hk0 : 0 ≤ k) (hk : k + 1 < L) :
    Calls Tryz.prog 15 #[.pointer (some ⟨bw, 0, none⟩), .pointer (some ⟨b1, 0, none⟩), .agg #[.int .i64 1, .int .i64 draw, m0, m1, m2, m3, m4, m5, m6, m7, m8, m9, k12, k13, k14, k15]] w fun e w' => e = .returned (.tuple #[.int .i64 0, .bool true]) ∧ ∃ S' F' h' g' c' s', One w0 w' bw b1 S' F' h' g' s' c' L Mo Bt t lg ∧ Waits s' L (k + 1) ∧ s'.commit = s.commit := by
  obtain ⟨s', hs'⟩ : ∃ s' : NS, s' = { s with draw := draw, from_ := 0, first := 0, last := 0, elapsed := s.elapsed + 1 } := ⟨_, rfl⟩
  have hTm : s'.term = t := by rw [hs']; exact hO.st
  have hL := hO.LM
  have hM := hO.M30
  have he := hW.el
  have ht := hW.tmo
  have hr := hW.role
  refine (step_one w bw b1 S F h g s c L Mo Bt t lg 1 draw m0 m1 m2 m3 m4 m5 m6 m7 m8 m9 k12 k13 k14 k15 s' [] (fun _ => True) hO (.inl rfl) ?_ ?_).mono ?_
  · rw [hs']
    exact ⟨hO.sid, hO.sL, hO.sMo, hO.sBt, hO.ss, hO.vote, .inl ⟨hO.st, rfl⟩, .inl ⟨rfl, rfl, hO.st⟩, fun h4 => by simp only at h4; omega, fun h4 => by simp only at h4; omega, Int.le_refl _, by simpa using hO.cm1, by simpa using hO.len, by simpa [hO.st] using hO.ok⟩
  · intro W hWb hN
    have hlen := hO.len
    refine Step_same g.bn s s' c 1 draw 72 m0 m1 m2 m3 m4 m5 m6 m7 m8 m9 k12 k13 k14 k15 F (lg ++ []) (fun _ => True) W hN (.inl ⟨rfl, rfl⟩) (by rw [hs']; exact ⟨rfl, rfl⟩) (by rw [hs']; simp only; rw [hO.ss]; decide) (by rw [hs']; simp only; rw [hO.ss]; decide) (by simp; omega) (fun h0 => by rw [hs'] at h0; simp at h0) hO.msgs (by rw [hO.peers, hO.sid]) (by rw [hs']) ?_
    intro W2 F0 c0 hN0 ⟨z, hz⟩ _ _
    refine (tick_wait g.bn _ c0 _ F0 _ W2 hN0 (by simp only; omega) (by simp only; omega) (by simp only; omega) (by simp only; omega)).mono ?_
    rintro e w' ⟨rfl, hN1, hC1⟩
    refine ⟨rfl, F0, c0, ⟨by rw [hs']; exact hN1, ?_, rfl, ⟨rfl, rfl⟩, ⟨rfl, rfl, rfl, rfl⟩, hC1, fun i hi => hi, fun i hi => .inl hi, trivial⟩⟩
    rw [hz]; simpa using hO.nlog
  · rintro e w' ⟨rfl, S', F', h', g', c', hO', _⟩
    rw [hTm, List.append_nil] at hO'
    refine ⟨rfl, S', F', h', g', c', s', hO', ?_, by rw [hs']⟩
    rw [hs']
    exact ⟨hr, by simp only; omega, ht⟩

theorem step_lead (hO : One w0 w bw b1 S F h g s c L Mo Bt t lg) (hW : Leads s c k) (hk0 : 0 ≤ k) (hk : k + 1 < Mo) :
    Calls Tryz.prog 15 #[.pointer (some ⟨bw, 0, none⟩), .pointer (some ⟨b1, 0, none⟩), .agg #[.int .i64 1, .int .i64 draw, m0, m1, m2, m3, m4, m5, m6, m7, m8, m9, k12, k13, k14, k15]] w fun e w' => e = .returned (.tuple #[.int .i64 0, .bool true]) ∧ ∃ S' F' h' g' c' s', One w0 w' bw b1 S' F' h' g' s' c' L Mo Bt t lg ∧ Leads s' c' (k + 1) ∧ s'.commit = s.commit := by
  obtain ⟨s', hs'⟩ : ∃ s' : NS, s' = NS.ticked { s with draw := draw, from_ := 0, first := 0, last := 0 } := ⟨_, rfl⟩
  have hTm : s'.term = t := by rw [hs']; exact hO.st
  have hL := hO.LM
  have hM := hO.M30
  have he := hW.el
  have hb0 := hW.b0
  have hb1 := hW.b1
  have hr := hW.role
  have hsM := hO.sMo
  have hsB := hO.sBt
  have hB1 := hO.B1
  have hBL := hO.BL
  refine (step_one w bw b1 S F h g s c L Mo Bt t lg 1 draw m0 m1 m2 m3 m4 m5 m6 m7 m8 m9 k12 k13 k14 k15 s' [] LQ hO (.inl rfl) ?_ ?_).mono ?_
  · rw [hs']
    exact ⟨hO.sid, hO.sL, hO.sMo, hO.sBt, hO.ss, hO.vote, .inl ⟨hO.st, rfl⟩, .inl ⟨rfl, rfl, hO.st⟩, fun _ h4 => absurd hr h4, fun _ => hW.le, Int.le_refl _, by simpa [NS.ticked] using hO.cm1, by simpa using hO.len, by simpa [NS.ticked, hO.st] using hO.ok⟩
  · intro W hWb hN
    have hlen := hO.len
    have hcl : c.log.length = lg.length := by rw [← hO.nlog]; simp
    refine Step_same g.bn s s' c 1 draw 72 m0 m1 m2 m3 m4 m5 m6 m7 m8 m9 k12 k13 k14 k15 F (lg ++ []) LQ W hN (.inl ⟨rfl, rfl⟩) (by rw [hs']; exact ⟨rfl, rfl⟩) (by rw [hs']; simp only [NS.ticked]; rw [hO.ss]; decide) (by rw [hs']; simp only [NS.ticked]; rw [hO.ss]; decide) (by simp; omega) (fun h0 => by rw [hs'] at h0; simp [NS.ticked] at h0) hO.msgs (by rw [hO.peers, hO.sid]) (by rw [hs']; rfl) ?_
    intro W2 F0 c0 hN0 ⟨z, hz⟩ _ _
    have hc0 : c0.log.length = lg.length := by rw [hz]; exact hcl
    have hp0 : c0.peers = [s.id] := by rw [hz]; simp only; rw [hO.peers, hO.sid]
    have hcm0 := hO.cm0
    have hcm1 := hO.cm1
    have ht0 := hO.t0
    have ht10 := hO.t10
    have hss := hO.ss
    have hst := hO.st
    have hsL := hO.sL
    have hL2 := hO.L2
    refine (tick_lead g.bn _ c0 _ F0 _ W2 hN0 ⟨hp0, by simp only; omega, by simp only; omega, by omega, by simp only; omega, by simp only; omega, by simp only; omega, by simp only; omega, by simp only; omega, by simp only; omega, by simp only; omega, by simp only; rw [hO.sid]; unfold okI; omega⟩ hr (by simp only; omega) (by simp only; omega) (by simp only; omega) (by simp only; omega) (by simp only; omega)).mono ?_
    rintro e w' ⟨rfl, hN1, hC1⟩
    refine ⟨rfl, F0, c0, ⟨by rw [hs']; exact hN1, ?_, rfl, ⟨rfl, rfl⟩, ⟨rfl, rfl, rfl, rfl⟩, hC1, fun i hi => hi, fun i hi => .inl hi, ?_⟩⟩
    · rw [hz]; simpa using hO.nlog
    · rw [hz]; exact ⟨hW.mt, hW.mtR⟩
  · rintro e w' ⟨rfl, S', F', h', g', c', hO', hq⟩
    rw [hTm, List.append_nil] at hO'
    refine ⟨rfl, S', F', h', g', c', s', hO', ?_, by rw [hs']; rfl⟩
    rw [hs']
    refine ⟨hr, by simp only [NS.ticked]; omega, ?_, ?_, hW.heir, hW.le, hq.1, hq.2⟩
    · simp only [NS.ticked]; split <;> omega
    · simp only [NS.ticked]; split <;> omega

theorem count_last (s : NS) (l : List E) (e : E) (hs : s.snap = 0) (_ : 0 ≤ s.commit) (hc1 : s.commit ≤ l.length) (he : e.term = s.term) (n : Nat) (hn : s.commit + n = l.length + 1) : countFrom s (l ++ [e]) [] 1 n = l.length + 1 := by
  cases n with
  | zero => simp at hn; omega
  | succ n =>
    simp only [countFrom]
    rw [hn]
    have : lterm s (l ++ [e]) (l.length + 1) = s.term := by
      unfold lterm
      rw [if_neg (by omega), hs, show ((l.length : Int) + 1 - 0 - 1).toNat = l.length by omega]
      simp [he]
    rw [if_pos this, if_pos (by simp [haveOf])]

theorem step_begin (hO : One w0 w bw b1 S F h g s c L Mo Bt t lg) (hW : Waits s L k) (hk0 : 0 ≤ k) (hk : L ≤ k + 1) (hk9 : k ≤ 1000) (ht9 : t ≤ 9) (hl9 : lg.length ≤ 999) :
    Calls Tryz.prog 15 #[.pointer (some ⟨bw, 0, none⟩), .pointer (some ⟨b1, 0, none⟩), .agg #[.int .i64 1, .int .i64 draw, m0, m1, m2, m3, m4, m5, m6, m7, m8, m9, k12, k13, k14, k15]] w fun e w' => e = .returned (.tuple #[.int .i64 0, .bool true]) ∧ ∃ S' F' h' g' c' s', One w0 w' bw b1 S' F' h' g' s' c' L Mo Bt (t + 1) (lg ++ [⟨lg.length + 1, t + 1, []⟩]) ∧ Leads s' c' 0 ∧ s'.commit = lg.length + 1 := by
  have hL := hO.LM
  have hM := hO.M30
  have he := hW.el
  have htm := hW.tmo
  have hr := hW.role
  have hcm0 := hO.cm0
  have hcm1 := hO.cm1
  have ht0 := hO.t0
  have hss := hO.ss
  have hst := hO.st
  have hsL := hO.sL
  have hsM := hO.sMo
  have hL2 := hO.L2
  have hid := hO.sid
  obtain ⟨s', hs'⟩ : ∃ s' : NS, s' = ((NS.stand1 { s with draw := draw, from_ := 0, first := 0, last := 0 }).leadA lg 1) := ⟨_, rfl⟩
  have hcm : s'.commit = lg.length + 1 := by
    rw [hs']
    show countFrom _ _ [] 1 _ = _
    refine count_last _ lg _ ?_ ?_ ?_ ?_ _ ?_
    · simp [NS.lead1, NS.turned, NS.stand1, NS.rest, hss]
    · simpa [NS.lead1, NS.turned, NS.stand1, NS.rest] using hcm0
    · simpa [NS.lead1, NS.turned, NS.stand1, NS.rest] using hcm1
    · simp [NS.lead1, NS.turned, NS.stand1, NS.rest]
    · simp [NS.lead1, NS.turned, NS.stand1, NS.rest, hss]; omega
  have hfr : s'.from_ = lg.length + 1 := by rw [hs']; simp [NS.leadA, NS.lead1, NS.turned, NS.stand1, NS.rest, hss]
  have hT : s'.term = t + 1 := by rw [hs']; simp [NS.leadA, NS.lead1, NS.turned, NS.stand1, NS.rest, hst]
  have hV : s'.vote = 1 := by rw [hs']; simp [NS.leadA, NS.lead1, NS.turned, NS.stand1, NS.rest, hid]
  have hI : s'.id = s.id := by rw [hs']; simp [NS.leadA, NS.lead1, NS.turned, NS.stand1, NS.rest]
  have hS0 : s'.snap = 0 := by rw [hs']; simp [NS.leadA, NS.lead1, NS.turned, NS.stand1, NS.rest, hss]
  have hLd : s'.leader = 1 := by rw [hs']; simp [NS.leadA, NS.lead1, NS.turned, NS.stand1, NS.rest, hid]
  have hle : s'.least = L := by rw [hs']; simp [NS.leadA, NS.lead1, NS.turned, NS.stand1, NS.rest, hsL]
  have hmo : s'.most = Mo := by rw [hs']; simp [NS.leadA, NS.lead1, NS.turned, NS.stand1, NS.rest, hsM]
  have hbe : s'.beatc = Bt := by rw [hs']; simp [NS.leadA, NS.lead1, NS.turned, NS.stand1, NS.rest, hO.sBt]
  have hro : s'.role = 4 ∧ s'.elapsed = 0 ∧ s'.beat = 0 ∧ s'.heir = 0 := by rw [hs']; simp [NS.leadA, NS.lead1, NS.turned, NS.stand1, NS.rest]
  refine (step_one w bw b1 S F h g s c L Mo Bt t lg 1 draw m0 m1 m2 m3 m4 m5 m6 m7 m8 m9 k12 k13 k14 k15 s' [⟨lg.length + 1, t + 1, []⟩] LQ hO (.inl rfl) ?_ ?_).mono ?_
  · exact ⟨hI.trans hid, hle, hmo, hbe, hS0, .inr hV, .inr ⟨by omega, by omega⟩, .inr hfr, fun _ _ => by omega, fun _ => hLd, by omega, by simp; omega, by simp; omega, by rw [hT]; exact hO.ok.snoc (by omega) (by omega) (by omega)⟩
  · intro W hWb hN
    have hlen := hO.len
    have hcl : c.log.length = lg.length := by rw [← hO.nlog]; simp
    refine Step_turned g.bn s s' c 1 draw 72 m0 m1 m2 m3 m4 m5 m6 m7 m8 m9 k12 k13 k14 k15 F (lg ++ [⟨lg.length + 1, t + 1, []⟩]) LQ W hN (.inl ⟨rfl, rfl⟩) (by omega) (by omega) (by omega) (by simp; omega) (fun h0 => by simp; omega) hO.msgs (by rw [hO.peers, hO.sid]) hI ?_
    intro W2 F0 c0 hN0 ⟨z, hz⟩
    have hc0 : c0.log.length = lg.length := by rw [hz]; exact hcl
    have hp0 : c0.peers = [s.id] := by rw [hz]; simp only; rw [hO.peers, hO.sid]
    have hl0 : c0.log.map con = lg := by rw [hz]; exact hO.nlog
    refine (tick_begin g.bn _ c0 _ F0 _ W2 hN0 ⟨hp0, by simp only; omega, by simp only; omega, by omega, by simp only; omega, by simp only; omega, by simp only; omega, by simp only; omega, by simp only; omega, by simp only; omega, by simp only; omega, by simp only; rw [hO.sid]; unfold okI; omega⟩ (by simp only; omega) (by simp only; omega) (by simp only; omega) (by simp only; omega)).mono ?_
    rintro e w' ⟨rfl, F1, c1, hB⟩
    have hrest := hB.rest
    refine ⟨rfl, F1, c1, ⟨?_, ?_, by rw [hrest], ⟨by rw [hrest], by rw [hrest]⟩, ⟨by rw [hrest], by rw [hrest], by rw [hrest], by rw [hrest]⟩, hB.chg, hB.sub, hB.sub', ?_⟩⟩
    · rw [hs']; have := hB.nd; rwa [hl0] at this
    · rw [hB.log, hl0, hc0]; simp [hss, hst]
    · exact ⟨by rw [hrest], ⟨c1.mtR.getD 0, by rw [hrest]; rfl⟩⟩
  · rintro e w' ⟨rfl, S', F', h', g', c', hO', hq⟩
    rw [hT] at hO'
    exact ⟨rfl, S', F', h', g', c', s', hO', ⟨hro.1, hro.2.1, by omega, by omega, hro.2.2.2, hLd, hq.1, hq.2⟩, hcm⟩

theorem step_propose (x : BR) (d : List Int) (dA : Option Addr) (dc : Nat) (Sd : Nat → Prop) (hO : One w0 w bw b1 S F h g s c L Mo Bt t lg) (hW : Leads s c k) (hcm : s.commit = lg.length) (hl9 : lg.length ≤ 999) (ht1 : 1 ≤ t) (hD : DataS w Sd dA [(x, d)]) (hSd : ∀ i, Sd i → i < w.heap.size ∧ ¬ F i) :
    Calls Tryz.prog 15 #[.pointer (some ⟨bw, 0, none⟩), .pointer (some ⟨b1, 0, none⟩), .agg #[.int .i64 3, .int .i64 draw, m0, m1, m2, m3, m4, m5, m6, m7, m8, m9, .slice dA 1 dc, k13, k14, k15]] w fun e w' => e = .returned (.tuple #[.int .i64 0, .bool true]) ∧ ∃ S' F' h' g' c' s', One w0 w' bw b1 S' F' h' g' s' c' L Mo Bt t (lg ++ [⟨lg.length + 1, t, d⟩]) ∧ Leads s' c' k ∧ s'.commit = lg.length + 1 := by
  have hr := hW.role
  have hcm0 := hO.cm0
  have ht0 := hO.t0
  have hss := hO.ss
  have hst := hO.st
  have hsL := hO.sL
  have hsM := hO.sMo
  have hid := hO.sid
  obtain ⟨m, hm⟩ := hW.mtR
  obtain ⟨s', hs'⟩ : ∃ s' : NS, s' = (NS.prop { s with draw := draw, from_ := 0, first := 0, last := 0 } lg [] [d] 1) := ⟨_, rfl⟩
  have hcm' : s'.commit = lg.length + 1 := by
    rw [hs']
    show countFrom _ _ [] 1 _ = _
    simp only [entsOf]
    refine count_last _ lg _ ?_ ?_ ?_ ?_ _ ?_
    · simp [NS.prop1, NS.turned, hss]
    · simpa [NS.prop1, NS.turned] using hcm0
    · simp [NS.prop1, NS.turned, hcm]
    · simp [NS.prop1, NS.turned]
    · simp [NS.prop1, NS.turned, hss]; omega
  have hfr : s'.from_ = lg.length + 1 := by rw [hs']; simp [NS.prop, NS.prop1, NS.turned, hss]
  have hT : s'.term = s.term := by rw [hs']; simp [NS.prop, NS.prop1, NS.turned]
  have hV : s'.vote = s.vote := by rw [hs']; simp [NS.prop, NS.prop1, NS.turned]
  have hI : s'.id = s.id := by rw [hs']; simp [NS.prop, NS.prop1, NS.turned]
  have hS0 : s'.snap = 0 := by rw [hs']; simp [NS.prop, NS.prop1, NS.turned, hss]
  have hLd : s'.leader = 1 := by rw [hs']; simp [NS.prop, NS.prop1, NS.turned, hW.le]
  have hle : s'.least = L := by rw [hs']; simp [NS.prop, NS.prop1, NS.turned, hsL]
  have hmo : s'.most = Mo := by rw [hs']; simp [NS.prop, NS.prop1, NS.turned, hsM]
  have hbe : s'.beatc = Bt := by rw [hs']; simp [NS.prop, NS.prop1, NS.turned, hO.sBt]
  have hro : s'.role = 4 ∧ s'.elapsed = s.elapsed ∧ s'.beat = s.beat ∧ s'.heir = 0 := by rw [hs']; simp [NS.prop, NS.prop1, NS.turned, hW.heir, hr]
  refine (step_one w bw b1 S F h g s c L Mo Bt t lg 3 draw m0 m1 m2 m3 m4 m5 m6 m7 m8 m9 (.slice dA 1 dc) k13 k14 k15 s' [⟨lg.length + 1, t, d⟩] LQ hO (.inr rfl) ?_ ?_).mono ?_
  · exact ⟨hI.trans hid, hle, hmo, hbe, hS0, by rw [hV]; exact hO.vote, .inl ⟨hT.trans hst, hV⟩, .inr hfr, fun _ h4 => absurd hr h4, fun _ => hLd, by omega, by simp; omega, by simp; omega, by rw [hT, hst]; exact hO.ok.snoc (by omega) (by omega) (by omega)⟩
  · intro W hWb hN
    have hlen := hO.len
    have hcl : c.log.length = lg.length := by rw [← hO.nlog]; simp
    refine Step_same g.bn s s' c 3 draw 74 m0 m1 m2 m3 m4 m5 m6 m7 m8 m9 (.slice dA 1 dc) k13 k14 k15 F (lg ++ [⟨lg.length + 1, t, d⟩]) LQ W hN (.inr ⟨rfl, rfl⟩) ⟨hT, hV⟩ (by omega) (by omega) (by simp; omega) (fun h0 => by simp; omega) hO.msgs (by rw [hO.peers, hO.sid]) hI ?_
    intro W2 F0 c0 hN0 ⟨z, hz⟩ hC2 hF0
    have hc0 : c0.log.length = lg.length := by rw [hz]; exact hcl
    have hp0 : c0.peers = [s.id] := by rw [hz]; simp only; rw [hO.peers, hO.sid]
    have hl0 : c0.log.map con = lg := by rw [hz]; exact hO.nlog
    have hD2 : DataS W2 Sd dA [(x, d)] := hD.keep (fun i hi => (hC2.keep (Nat.lt_of_lt_of_le (hSd i hi).1 hWb.size) (hSd i hi).2).trans (hWb.block i (hSd i hi).1))
    have hS2 : ∀ i, Sd i → i < W2.heap.size ∧ ¬ F0 i := fun i hi => ⟨Nat.lt_of_lt_of_le (hSd i hi).1 (Nat.le_trans hWb.size hC2.size), fun hf => by
      rcases hF0 i hf with h1 | h1
      · exact (hSd i hi).2 h1
      · have := (hSd i hi).1; have := hWb.size; omega⟩
    refine (propose_alone g.bn _ c0 _ _ _ _ _ _ _ _ _ _ _ _ _ _ _ dA 1 dc [(x, d)] Sd F0 _ W2 hN0 hD2 rfl hS2 (by simp) (by simp) hr hW.heir (by simp; omega) (by simp; omega) (by simp only; omega) (by simp only; omega) (by simp only; omega) hp0 m (by rw [hz]; exact hm) (by rw [hz]; exact hW.mt)).mono ?_
    rintro e w' ⟨rfl, F1, c1, hN1, hlog, hrest, hC1, hsub, hsub'⟩
    refine ⟨rfl, F1, c1, ⟨?_, ?_, by rw [hrest], ⟨by rw [hrest], by rw [hrest]⟩, ⟨by rw [hrest], by rw [hrest], by rw [hrest], by rw [hrest]⟩, hC1, hsub, hsub', ?_⟩⟩
    · rw [hs']; rw [hl0] at hN1; exact hN1
    · rw [hlog, hl0, hc0]; simp [hss, hst, entsOf]
    · exact ⟨by rw [hrest, hz]; exact hW.mt, ⟨m, by rw [hrest, hz]; exact hm⟩⟩
  · rintro e w' ⟨rfl, S', F', h', g', c', hO', hq⟩
    rw [hT, hst] at hO'
    exact ⟨rfl, S', F', h', g', c', s', hO', ⟨hro.1, hro.2.1.trans hW.el, by have := hW.b0; omega, by have := hW.b1; omega, hro.2.2.2, hLd, hq.1, hq.2⟩, hcm'⟩
end
end Go.Proofs.YtocogcgnahbpkaaGreat
