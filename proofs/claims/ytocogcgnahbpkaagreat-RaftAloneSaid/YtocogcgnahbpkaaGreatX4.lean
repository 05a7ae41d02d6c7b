/-
  The world of a node alone, from tick to tick: it waits, begins, leads.
-/
import Derived.Test.YtocogcgnahbpkaaGreatX2
namespace Go.Proofs.YtocogcgnahbpkaaGreat
open Go.RowKit

def Wt (w0 w : World) (bw b1 : Nat) (L Mo Bt t : Int) (lg : List E) (k : Int) : Prop := ∃ S F h g c s, One w0 w bw b1 S F h g s c L Mo Bt t lg ∧ Waits s L k
def Ld (w0 w : World) (bw b1 : Nat) (L Mo Bt t : Int) (lg : List E) (k : Int) : Prop := ∃ S F h g c s, One w0 w bw b1 S F h g s c L Mo Bt t lg ∧ Leads s c k ∧ s.commit = lg.length
/-- Behind k ticks. -/
def Ph (w0 w : World) (bw b1 : Nat) (L Mo Bt t : Int) (lg : List E) (k : Int) : Prop :=
  (k < L ∧ Wt w0 w bw b1 L Mo Bt t lg k) ∨ (L ≤ k ∧ Ld w0 w bw b1 L Mo Bt (t + 1) (lg ++ [⟨lg.length + 1, t + 1, []⟩]) (k - L))

section
variable {w0 w w' : World} {bw b1 : Nat} {L Mo Bt t k : Int} {lg : List E}

/-- What a reader of the world meets. -/
structure Seen (w0 w : World) (bw b1 : Nat) (ro cm : Int) : Prop where
  wb : ∃ g, w.heap[bw]? = some (.cells (wcells g) 43 (0, 0)) ∧ w.cell? ⟨g.sb, g.so, none⟩ = some (.pointer (some ⟨b1, 0, none⟩))
  sb : ∃ g, w.heap[b1]? = some (.cells (scells g) 52 (0, 0)) ∧ g.ro = ro ∧ g.cm = cm
  below : Below w0.heap.size w0 w

theorem One.seen {S F : Nat → Prop} {h : Nat} {g : WG} {s : NS} {c : NC} (hO : One w0 w bw b1 S F h g s c L Mo Bt t lg) : Seen w0 w bw b1 s.role s.commit :=
  ⟨⟨g, hO.aw.at_.wb, hO.aw.at_.seat⟩, ⟨g, hO.aw.at_.sb, hO.gro, hO.gcm⟩, hO.below⟩

theorem Ld.seen (h : Ld w0 w bw b1 L Mo Bt t lg k) : Seen w0 w bw b1 4 lg.length := by
  obtain ⟨S, F, h, g, c, s, hO, hL, hc⟩ := h
  have := hO.seen
  rwa [hL.role, hc] at this
theorem Ph.seen (h : Ph w0 w bw b1 L Mo Bt t lg k) : ∃ ro cm, Seen w0 w bw b1 ro cm := by
  rcases h with ⟨_, S, F, h, g, c, s, hO, _⟩ | ⟨_, h⟩
  · exact ⟨_, _, hO.seen⟩
  · exact ⟨_, _, h.seen⟩
theorem Ph.led (h : Ph w0 w bw b1 L Mo Bt t lg k) (hk : L ≤ k) : Ld w0 w bw b1 L Mo Bt (t + 1) (lg ++ [⟨lg.length + 1, t + 1, []⟩]) (k - L) := by
  rcases h with ⟨h, _⟩ | ⟨_, h⟩
  · omega
  · exact h

theorem Ld.keepB (h : Ld w0 w bw b1 L Mo Bt t lg k) (hb : Below w.heap.size w w') : Ld w0 w' bw b1 L Mo Bt t lg k := by
  obtain ⟨S, F, h, g, c, s, hO, hL, hc⟩ := h
  exact ⟨S, F, h, g, c, s, hO.keepB hb, hL, hc⟩

theorem Ld.drewN (h : Ld w0 w bw b1 L Mo Bt t lg k) (n : Nat) : Ld w0 (w.drewN n) bw b1 L Mo Bt t lg k := by
  obtain ⟨S, F, h, g, c, s, hO, hL, hc⟩ := h
  exact ⟨S, F, h, g, c, s, hO.keepD n, hL, hc⟩

theorem tick_phase (h : Ph w0 w bw b1 L Mo Bt t lg k) (hk0 : 0 ≤ k) (hk : k < Mo) (ht9 : t ≤ 9) (hl9 : lg.length ≤ 999) :
    Calls Tryz.prog 17 #[.pointer (some ⟨bw, 0, none⟩), .pointer (some ⟨b1, 0, none⟩)] w fun e w' => e = .returned (.bool true) ∧ Ph w0 w' bw b1 L Mo Bt t lg (k + 1) := by
  rcases h with ⟨hkL, S, F, h, g, c, s, hO, hW⟩ | ⟨hkL, S, F, h, g, c, s, hO, hW, hc⟩
  · have hM := hO.M30
    by_cases hk1 : k + 1 < L
    · refine (tick_one w bw b1 S F h g s c L Mo Bt t t lg lg (fun s' _ => Waits s' L (k + 1)) hO (fun m0 m1 m2 m3 m4 m5 m6 m7 m8 m9 k12 k13 k14 k15 => ?_)).mono ?_
      · refine (step_wait w bw b1 S F h g s c L Mo Bt t k 0 lg m0 m1 m2 m3 m4 m5 m6 m7 m8 m9 k12 k13 k14 k15 hO hW hk0 hk1).mono ?_
        rintro e w' ⟨rfl, S', F', h', g', c', s', hO', hW', _⟩
        exact ⟨rfl, S', F', h', g', c', s', hO', hW'⟩
      · rintro e w' ⟨rfl, S', F', h', g', c', s', hO', hW'⟩
        exact ⟨rfl, .inl ⟨hk1, S', F', h', g', c', s', hO', hW'⟩⟩
    · refine (tick_one w bw b1 S F h g s c L Mo Bt t (t + 1) lg (lg ++ [⟨lg.length + 1, t + 1, []⟩]) (fun s' c' => Leads s' c' 0 ∧ s'.commit = lg.length + 1) hO (fun m0 m1 m2 m3 m4 m5 m6 m7 m8 m9 k12 k13 k14 k15 => ?_)).mono ?_
      · refine (step_begin w bw b1 S F h g s c L Mo Bt t k 0 lg m0 m1 m2 m3 m4 m5 m6 m7 m8 m9 k12 k13 k14 k15 hO hW hk0 (by omega) (by omega) ht9 hl9).mono ?_
        rintro e w' ⟨rfl, S', F', h', g', c', s', hO', hW', hc'⟩
        exact ⟨rfl, S', F', h', g', c', s', hO', hW', hc'⟩
      · rintro e w' ⟨rfl, S', F', h', g', c', s', hO', hW', hc'⟩
        refine ⟨rfl, .inr ⟨by omega, S', F', h', g', c', s', hO', ?_, by rw [hc']; simp⟩⟩
        rw [show k + 1 - L = 0 by omega]; exact hW'
  · have hL2 := hO.L2
    refine (tick_one w bw b1 S F h g s c L Mo Bt (t + 1) (t + 1) (lg ++ [⟨lg.length + 1, t + 1, []⟩]) (lg ++ [⟨lg.length + 1, t + 1, []⟩]) (fun s' c' => Leads s' c' (k - L + 1) ∧ s'.commit = s.commit) hO (fun m0 m1 m2 m3 m4 m5 m6 m7 m8 m9 k12 k13 k14 k15 => ?_)).mono ?_
    · refine (step_lead w bw b1 S F h g s c L Mo Bt (t + 1) (k - L) 0 (lg ++ [⟨lg.length + 1, t + 1, []⟩]) m0 m1 m2 m3 m4 m5 m6 m7 m8 m9 k12 k13 k14 k15 hO hW (by omega) (by omega)).mono ?_
      rintro e w' ⟨rfl, S', F', h', g', c', s', hO', hW', hc'⟩
      exact ⟨rfl, S', F', h', g', c', s', hO', hW', hc'⟩
    · rintro e w' ⟨rfl, S', F', h', g', c', s', hO', hW', hc'⟩
      refine ⟨rfl, .inr ⟨by omega, S', F', h', g', c', s', hO', ?_, by rw [hc']; exact hc⟩⟩
      rw [show k + 1 - L = k - L + 1 by omega]; exact hW'

theorem propose_any (x : BR) (d : List Int) (dA : Option Addr) (dc : Nat) (draw : Int) (m0 m1 m2 m3 m4 m5 m6 m7 m8 m9 k13 k14 k15 : Value) (Sd : Nat → Prop) (h : Ld w0 w bw b1 L Mo Bt t lg k) (hl9 : lg.length ≤ 999) (ht1 : 1 ≤ t) (hb : Below w.heap.size w w') (hD : DataS w' Sd dA [(x, d)]) (hSd : ∀ i, Sd i → i < w'.heap.size ∧ (i < w0.heap.size ∨ w.heap.size ≤ i)) :
    Calls Tryz.prog 15 #[.pointer (some ⟨bw, 0, none⟩), .pointer (some ⟨b1, 0, none⟩), .agg #[.int .i64 3, .int .i64 draw, m0, m1, m2, m3, m4, m5, m6, m7, m8, m9, .slice dA 1 dc, k13, k14, k15]] w' fun e w'' => e = .returned (.tuple #[.int .i64 0, .bool true]) ∧ Ld w0 w'' bw b1 L Mo Bt t (lg ++ [⟨lg.length + 1, t, d⟩]) k := by
  obtain ⟨S, F, h, g, c, s, hO, hW, hc⟩ := h
  have hF := hO.nd.rest.bdF
  have hF0 := hO.fF
  refine (step_propose w' bw b1 S F h g s c L Mo Bt t k draw lg m0 m1 m2 m3 m4 m5 m6 m7 m8 m9 k13 k14 k15 x d dA dc Sd (hO.keepB hb) hW hc hl9 ht1 hD (fun i hi => ⟨(hSd i hi).1, fun hf => ?_⟩)).mono ?_
  · have h1 := hF i hf
    have h2 := hF0 i hf
    rcases (hSd i hi).2 with h3 | h3 <;> omega
  · rintro e w' ⟨rfl, S', F', h', g', c', s', hO', hW', hc'⟩
    exact ⟨rfl, S', F', h', g', c', s', hO', hW', by rw [hc']; simp⟩

theorem entry_last {d : List Int} (h : Ld w0 w bw b1 L Mo Bt t (lg ++ [⟨lg.length + 1, t, d⟩]) k) (j : Int) (hj : j = lg.length + 1) :
    Calls Tryz.prog 18 #[.pointer (some ⟨b1, 0, none⟩), .int .i64 j] w fun e w' => ∃ (q : LE × List Int), e = .returned (.tuple #[.agg #[.int .i64 (lg.length + 1), .int .i64 t, .slice q.1.A q.1.n q.1.c], .bool true]) ∧ Bytes w' w'.heap.size q.1.A d ∧ q.1.n = d.length ∧ Below w.heap.size w w' ∧ Ld w0 w' bw b1 L Mo Bt t (lg ++ [⟨lg.length + 1, t, d⟩]) k := by
  obtain ⟨S, F, h, g, c, s, hO, hW, hc⟩ := h
  have ha := hO.aw.at_
  have hlog := hO.glog
  have hll := hO.dlen
  have hlen := hO.len
  have hlk : lg.length < g.dl.length := by rw [hll]; simp
  obtain ⟨q, hq⟩ : ∃ q, g.dl[lg.length]? = some q := ⟨_, List.getElem?_eq_getElem hlk⟩
  have hqc : con q = ⟨lg.length + 1, t, d⟩ := by
    have := congrArg (fun l => l[lg.length]?) hlog
    simp only [List.getElem?_map, hq, Option.map_some] at this
    rw [List.getElem?_append_right (Nat.le_refl _)] at this
    simpa using this
  simp only [con, E.mk.injEq] at hqc
  obtain ⟨e1, e2, e3⟩ := hqc
  rw [hj]
  refine (entry_yes bw b1 g lg.length q w ha.sb (ha.dl.ents ha.bd) ha.dn hq (by rw [hll]; omega)).mono ?_
  rintro e w' ⟨rfl, hb⟩
  refine ⟨q, ?_, ?_, ?_, hb, S, F, h, g, c, s, hO.keepB hb, hW, hc⟩
  · rw [← e1, ← e2]; rfl
  · obtain ⟨hr, _, _⟩ := ha.dl.each q (List.mem_of_getElem? hq)
    rw [e3] at hr
    exact (hr.keep (fun i hi => hb.block i (ha.bd i hi))).row (fun i hi => Nat.lt_of_lt_of_le (ha.bd i hi) hb.size)
  · obtain ⟨_, hn, _⟩ := ha.dl.each q (List.mem_of_getElem? hq)
    rw [hn, e3]

theorem crash_phase (again : Int) (h : Ld w0 w bw b1 L Mo Bt t lg k) (ht1 : 1 ≤ t) :
    Calls Tryz.prog 19 #[.pointer (some ⟨bw, 0, none⟩), .pointer (some ⟨b1, 0, none⟩), .int .i64 again, .int .i64 0] w fun e w' => e = .returned (.bool true) ∧ Ph w0 w' bw b1 L Mo Bt t lg 0 := by
  obtain ⟨S, F, h, g, c, s, hO, hW, hc⟩ := h
  have hL2 := hO.L2
  refine (crash_one w bw b1 S F h g s c L Mo Bt t lg again hO ht1).mono ?_
  rintro e w' ⟨rfl, S', F', h', g', c', s', hO', hW'⟩
  exact ⟨rfl, .inl ⟨by omega, S', F', h', g', c', s', hO', hW'⟩⟩
end
end Go.Proofs.YtocogcgnahbpkaaGreat
