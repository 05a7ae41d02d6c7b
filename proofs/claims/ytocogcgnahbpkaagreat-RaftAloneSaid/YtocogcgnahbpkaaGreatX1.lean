/-
  World.step of a node alone.
-/
import Derived.Test.YtocogcgnahbpkaaGreatW8
import Derived.Test.YtocogcgnahbpkaaGreatN13
import Derived.Test.YtocogcgnahbpkaaGreatW5
namespace Go.Proofs.YtocogcgnahbpkaaGreat
open Go.RowKit

section
variable {w w1 w' w'' : World} {F : Nat → Prop} {b : Nat} {s' : NS} {c : NC} {log' : List E} {Q : NC → Prop} {F' : Nat → Prop} {c' : NC} {A : Option Addr} {n k : Nat} {qs : List (LE × List Int)} {S : Nat → Prop}
theorem Stepped.then (h : Stepped w w' F b s' c log' Q F' c' A n k qs S) (hk : ∀ i, F' i ∨ S i → i < w'.heap.size → w''.heap[i]? = w'.heap[i]?) (hsz : w'.heap.size ≤ w''.heap.size) (hc : Chg F w w'') : Stepped w w'' F b s' c log' Q F' c' A n k qs S :=
  ⟨h.nd.keep hsz (fun i hi hl => hk i (by rcases hi with hi | hi; exact .inl hi; exact hi.elim) hl), h.log, h.peers, h.msgs, hc, h.sub, h.sub', h.q, h.ents.keep (fun i hi => hk i (.inr hi) (h.fresh i hi).2.1), h.len, fun i hi => ⟨(h.fresh i hi).1, Nat.lt_of_lt_of_le (h.fresh i hi).2.1 hsz, (h.fresh i hi).2.2⟩, h.con⟩
theorem Stepped.from (h : Stepped w1 w' F b s' c log' Q F' c' A n k qs S) (hb : Below w.heap.size w w1) : Stepped w w' F b s' c log' Q F' c' A n k qs S :=
  ⟨h.nd, h.log, h.peers, h.msgs, (Chg.ofBelow hb).trans h.chg, h.sub, fun i hi => (h.sub' i hi).imp_right (fun h1 => Nat.le_trans hb.size h1), h.q, h.ents, h.len, fun i hi => ⟨Nat.le_trans hb.size (h.fresh i hi).1, (h.fresh i hi).2⟩, h.con⟩
end
theorem chg12 (w : World) (y : Nat) (v0 v1 v2 v3 v4 v5 v6 v7 v8 v9 v10 v11 : Value) : Chg (· = y) w ((((((((((((w.setCell ⟨y, 0, none⟩ v0).setCell ⟨y, 1, none⟩ v1).setCell ⟨y, 2, none⟩ v2).setCell ⟨y, 3, none⟩ v3).setCell ⟨y, 4, none⟩ v4).setCell ⟨y, 5, none⟩ v5).setCell ⟨y, 6, none⟩ v6).setCell ⟨y, 7, none⟩ v7).setCell ⟨y, 8, none⟩ v8).setCell ⟨y, 9, none⟩ v9).setCell ⟨y, 10, none⟩ v10).setCell ⟨y, 11, none⟩ v11) := (chg1 (chg1 (chg1 (chg1 (chg1 (chg1 (chg1 (chg1 (chg1 (chg1 (chg1 (chg1 Chg.refl _) _) _) _) _) _) _) _) _) _) _) _)

/-- What a step of the node makes of a world of one node. -/
structure Turned (s s' : NS) (L Mo Bt t : Int) (lg es : List E) : Prop where
  id : s'.id = 1
  L : s'.least = L
  Mo : s'.most = Mo
  Bt : s'.beatc = Bt
  sn : s'.snap = 0
  vote : s'.vote = 0 ∨ s'.vote = 1
  term : (s'.term = t ∧ s'.vote = s.vote) ∨ (t < s'.term ∧ s'.term ≤ 10)
  from_ : (s'.from_ = 0 ∧ es = [] ∧ s'.term = t) ∨ s'.from_ = lg.length + 1
  lead : s'.role = 4 → s.role ≠ 4 → t < s'.term
  led : s'.role = 4 → s'.leader = 1
  cm1 : s.commit ≤ s'.commit
  cm2 : s'.commit ≤ lg.length + es.length
  len : lg.length + es.length ≤ 1000
  ok : LogOK (lg ++ es) 0 0 s'.term

set_option maxRecDepth 100000 in
set_option maxHeartbeats 4000000 in
theorem step_one {w0 : World} (w : World) (bw b1 : Nat) (S F : Nat → Prop) (h : Nat) (g : WG) (s : NS) (c : NC) (L Mo Bt t : Int) (lg : List E) (kind draw : Int) (m0 m1 m2 m3 m4 m5 m6 m7 m8 m9 k12 k13 k14 k15 : Value) (s' : NS) (es : List E) (Q : NC → Prop)
    (hO : One w0 w bw b1 S F h g s c L Mo Bt t lg) (hkind : kind = 1 ∨ kind = 3) (hT : Turned s s' L Mo Bt t lg es)
    (hstep : ∀ W, Below w.heap.size w W → NdAt W F (fun _ => False) g.bn s c → Calls Tryz.prog 32 #[.pointer (some ⟨g.bn, 0, none⟩), .agg #[.int .i64 kind, .int .i64 draw, m0, m1, m2, m3, m4, m5, m6, m7, m8, m9, k12, k13, k14, k15]] W fun e w' => ∃ F' c' A n k qs S', e = .returned (.tuple #[readyV s s' (lg ++ es).length A n k, .int .i64 0]) ∧ Stepped W w' F g.bn s' c (lg ++ es) Q F' c' A n k qs S') :
    Calls Tryz.prog 15 #[.pointer (some ⟨bw, 0, none⟩), .pointer (some ⟨b1, 0, none⟩), .agg #[.int .i64 kind, .int .i64 draw, m0, m1, m2, m3, m4, m5, m6, m7, m8, m9, k12, k13, k14, k15]] w fun e w' => e = .returned (.tuple #[.int .i64 0, .bool true]) ∧ ∃ S' F' h' g' c', One w0 w' bw b1 S' F' h' g' s' c' L Mo Bt s'.term (lg ++ es) ∧ Q c' := by
  have HO := Lib.hid hO
  have HT := Lib.hid hT
  have HK := Lib.hid hkind
  obtain ⟨bn, hbn⟩ : ∃ bn, bn = g.bn := ⟨_, rfl⟩
  rw [← hbn] at hstep
  obtain ⟨fl, hfl⟩ : ∃ fl : Bool, fl = decide (s'.term ≠ s.term ∨ 0 < s'.from_) := ⟨_, rfl⟩
  obtain ⟨fr, hfr⟩ : ∃ fr : Int, fr = if 0 < s'.from_ then s'.from_ else s'.snap + ((lg ++ es).length : Nat) + 1 := ⟨_, rfl⟩
  have hstep' : ∀ W, Below w.heap.size w W → NdAt W F (fun _ => False) bn s c → Calls Tryz.prog 32 #[.pointer (some ⟨bn, 0, none⟩), .agg #[.int .i64 kind, .int .i64 draw, m0, m1, m2, m3, m4, m5, m6, m7, m8, m9, k12, k13, k14, k15]] W fun e w' => ∃ F' c' A n k qs S', e = .returned (.tuple #[(.agg #[.int .i64 s'.term, .int .i64 s'.vote, .bool fl, .int .i64 fr, .slice A n k, .slice none 0 0, .int .i64 s'.commit, .slice none 0 0, .int .i64 s'.role, .int .i64 s'.leader, .int .i64 s'.first, .int .i64 s'.last]), .int .i64 0]) ∧ Stepped W w' F bn s' c (lg ++ es) Q F' c' A n k qs S' := by
    intro W hW hN
    refine (hstep W hW hN).mono ?_
    rintro e w' ⟨F', c', A, n, k, qs, S', rfl, hS⟩
    exact ⟨F', c', A, n, k, qs, S', by rw [hfl, hfr]; rfl, hS⟩
  have HFL := Lib.hid hfl
  have HFR := Lib.hid hfr
  have HBN := Lib.hid hbn
  have HST := Lib.hid hstep'
  have d2 := sc2 hO.aw.at_.sb
  have hlb := block_lt hO.aw.at_.sb
  have hlw := block_lt hO.aw.at_.wb
  clear hO hT hkind hstep hstep' hbn hfl hfr
  go_enter Tryz.func15, Tryz.ntmps15
  go_upto_region 9 with (fail)
  have hb1 : Below w.heap.size w ((w.alloc (.cells #[.int .i64 kind, .int .i64 draw, m0, m1, m2, m3, m4, m5, m6, m7, m8, m9, k12, k13, k14, k15] 61)).alloc (.cells #[.int .i64 0, .int .i64 0, .bool false, .int .i64 0, .slice none 0 0, .slice none 0 0, .int .i64 0, .slice none 0 0, .int .i64 0, .int .i64 0, .int .i64 0, .int .i64 0] 80)) := (below_alloc1 w _).alloc (by simp) _
  have he1 : ((w.alloc (.cells #[.int .i64 kind, .int .i64 draw, m0, m1, m2, m3, m4, m5, m6, m7, m8, m9, k12, k13, k14, k15] 61)).alloc (.cells #[.int .i64 0, .int .i64 0, .bool false, .int .i64 0, .slice none 0 0, .slice none 0 0, .int .i64 0, .slice none 0 0, .int .i64 0, .int .i64 0, .int .i64 0, .int .i64 0] 80)).heap[w.heap.size]? = some (.cells #[.int .i64 kind, .int .i64 draw, m0, m1, m2, m3, m4, m5, m6, m7, m8, m9, k12, k13, k14, k15] 61 (0, 0)) := block_alloc (World.alloc_at w _) _
  have hr1 : ((w.alloc (.cells #[.int .i64 kind, .int .i64 draw, m0, m1, m2, m3, m4, m5, m6, m7, m8, m9, k12, k13, k14, k15] 61)).alloc (.cells #[.int .i64 0, .int .i64 0, .bool false, .int .i64 0, .slice none 0 0, .slice none 0 0, .int .i64 0, .slice none 0 0, .int .i64 0, .int .i64 0, .int .i64 0, .int .i64 0] 80)).heap[w.heap.size + 1]? = some (.cells #[.int .i64 0, .int .i64 0, .bool false, .int .i64 0, .slice none 0 0, .slice none 0 0, .int .i64 0, .slice none 0 0, .int .i64 0, .int .i64 0, .int .i64 0, .int .i64 0] 80 (0, 0)) := by
    have := World.alloc_at (w.alloc (.cells #[.int .i64 kind, .int .i64 draw, m0, m1, m2, m3, m4, m5, m6, m7, m8, m9, k12, k13, k14, k15] 61)) (.cells #[.int .i64 0, .int .i64 0, .bool false, .int .i64 0, .slice none 0 0, .slice none 0 0, .int .i64 0, .slice none 0 0, .int .i64 0, .int .i64 0, .int .i64 0, .int .i64 0] 80)
    rwa [World.alloc_size] at this
  have hz1 : ((w.alloc (.cells #[.int .i64 kind, .int .i64 draw, m0, m1, m2, m3, m4, m5, m6, m7, m8, m9, k12, k13, k14, k15] 61)).alloc (.cells #[.int .i64 0, .int .i64 0, .bool false, .int .i64 0, .slice none 0 0, .slice none 0 0, .int .i64 0, .slice none 0 0, .int .i64 0, .int .i64 0, .int .i64 0, .int .i64 0] 80)).heap.size = w.heap.size + 2 := by simp
  obtain ⟨x, hx⟩ : ∃ x, x = w.heap.size := ⟨_, rfl⟩
  rw [← hx] at he1 hr1 hz1
  rw [← hx]
  have HX := Lib.hid hx
  clear hx
  generalize ((w.alloc (.cells #[.int .i64 kind, .int .i64 draw, m0, m1, m2, m3, m4, m5, m6, m7, m8, m9, k12, k13, k14, k15] 61)).alloc (.cells #[.int .i64 0, .int .i64 0, .bool false, .int .i64 0, .slice none 0 0, .slice none 0 0, .int .i64 0, .slice none 0 0, .int .i64 0, .int .i64 0, .int .i64 0, .int .i64 0] 80)) = W1 at hb1 he1 hr1 hz1 ⊢
  have hs1 : W1.heap[b1]? = some (.cells (scells { g with bn := bn }) 52 (0, 0)) := by
    have hgg : { g with bn := bn } = g := by rw [HBN.out]
    rw [hgg]
    exact (hb1.block b1 hlb).trans HO.out.aw.at_.sb
  have HB1 := Lib.hid hb1
  have HE1 := Lib.hid he1
  have HR1 := Lib.hid hr1
  have HZ1 := Lib.hid hz1
  have HS1 := Lib.hid hs1
  have HNF := Lib.hid (show ∀ i, F i → i < x ∧ i ≠ b1 from fun i hi => ⟨by rw [HX.out]; exact HO.out.nd.rest.bdF i hi, fun e => (HO.out.dis i hi).2 (e ▸ .inr (.inl rfl))⟩)
  have hlb1 : b1 < x := by rw [HX.out]; exact hlb
  clear d2 hlb hlw hb1 he1 hr1 hz1 hs1
  have HSS : Hid (∀ W, Chg F W1 W → W.heap[x]? = some (.cells #[.int .i64 kind, .int .i64 draw, m0, m1, m2, m3, m4, m5, m6, m7, m8, m9, k12, k13, k14, k15] 61 (0, 0)) ∧ W.heap[b1]? = some (.cells (scells { g with bn := bn }) 52 (0, 0))) := Lib.hid (fun W hW => by
    have hz := HZ1.out
    exact ⟨(hW.keep (by omega) (fun hf => by have := (HNF.out _ hf).1; omega)).trans HE1.out, (hW.keep (by omega) (fun hf => (HNF.out _ hf).2 rfl)).trans HS1.out⟩)
  have HND : Hid (∀ W, Below W1.heap.size W1 W → NdAt W F (fun _ => False) bn s c) := Lib.hid (fun W hW => by rw [HBN.out]; exact (HO.out.nd.below HB1.out).below hW)
  go_cut [13, 14] (fun r e wx => ∃ y, r = .pointer (some ⟨y, 0, none⟩) ∧ e = .int .i64 0 ∧ Hid (∃ F' c' A n k qs S', wx.heap[y]? = some (.cells #[.int .i64 s'.term, .int .i64 s'.vote, .bool fl, .int .i64 fr, .slice A n k, .slice none 0 0, .int .i64 s'.commit, .slice none 0 0, .int .i64 s'.role, .int .i64 s'.leader, .int .i64 s'.first, .int .i64 s'.last] 80 (0, 0)) ∧ Stepped W1 wx F bn s' c (lg ++ es) Q F' c' A n k qs S' ∧ W1.heap.size ≤ y ∧ ¬ F' y ∧ ¬ S' y))
  case first =>
    refine wp_region_held_drew (S := (fun W => W.heap[x]? = some (.cells #[.int .i64 kind, .int .i64 draw, m0, m1, m2, m3, m4, m5, m6, m7, m8, m9, k12, k13, k14, k15] 61 (0, 0)) ∧ W.heap[b1]? = some (.cells (scells { g with bn := bn }) 52 (0, 0)))) (by kernel_rfl) (HSS.out _ (Chg.refl).drew) (fun hHeld => ?_)
    refine wpAnyH_take (i := 0) (v := .pointer (some ⟨b1, 0, none⟩)) rfl (by kernel_rfl) (by kernel_rfl) (by kernel_rfl) (fun _ _ _ h => h) (Or.inl ⟨by rfl, ?_⟩) (by assumption) ?_
    · intro w hSw; go_simp
    try simp only [Act.put, List.getElem_toArray, List.getElem_cons_zero]
    try simp only [List.setIfInBounds_toArray, List.set_cons_zero, List.set_cons_succ]
    refine wpAnyH_take (i := 1) (v := .pointer (some ⟨b1, 0, none⟩)) rfl (by kernel_rfl) (by kernel_rfl) (by kernel_rfl) (fun _ _ _ h => h) (Or.inl ⟨by rfl, ?_⟩) (by assumption) ?_
    · intro w hSw; go_simp
    try simp only [Act.put, List.getElem_toArray, List.getElem_cons_succ, List.getElem_cons_zero]
    try simp only [List.setIfInBounds_toArray, List.set_cons_zero, List.set_cons_succ]
    refine wpAnyH_take (i := 2) (v := .pointer (some ⟨b1, 1, none⟩)) rfl (by kernel_rfl) (by kernel_rfl) (by kernel_rfl) (fun _ _ _ h => h) (Or.inl ⟨by rfl, ?_⟩) (by assumption) ?_
    · intro w hSw; go_simp
    try simp only [Act.put, List.getElem_toArray, List.getElem_cons_succ, List.getElem_cons_zero]
    try simp only [List.setIfInBounds_toArray, List.set_cons_zero, List.set_cons_succ]
    refine wpAnyH_take (i := 3) (v := .pointer (some ⟨bn, 0, none⟩)) rfl (by kernel_rfl) (by kernel_rfl) (by kernel_rfl) (fun _ _ _ h => h) (Or.inl ⟨by rfl, ?_⟩) (by assumption) ?_
    · intro w hSw; have q1 := sc1 hSw.2; go_simp
    try simp only [Act.put, List.getElem_toArray, List.getElem_cons_succ, List.getElem_cons_zero]
    try simp only [List.setIfInBounds_toArray, List.set_cons_zero, List.set_cons_succ]
    refine wpAnyH_take (i := 4) (v := .agg #[.int .i64 kind, .int .i64 draw, m0, m1, m2, m3, m4, m5, m6, m7, m8, m9, k12, k13, k14, k15]) rfl (by kernel_rfl) (by kernel_rfl) (by kernel_rfl) (fun _ _ _ h => h) (Or.inl ⟨by rfl, ?_⟩) (by assumption) ?_
    · intro w hSw; obtain ⟨e0, e1, e2, e3, e4, e5, e6, e7, e8, e9, e10, e11, e12, e13, e14, e15⟩ := cells16 hSw.1; go_simp
    try simp only [Act.put, List.getElem_toArray, List.getElem_cons_succ, List.getElem_cons_zero]
    try simp only [List.setIfInBounds_toArray, List.set_cons_zero, List.set_cons_succ]
    refine wpAnyH_ready (rs := [5, 9]) (by kernel_rfl) (by simp) ?_
    refine AllReadyH.cons rfl (fun K hK => ?_) (AllReadyH.cons rfl (fun K hK => ?_) AllReadyH.nil)
    ·
      go_simp
      refine (HST.out _ (HB1.out.trans (Below.refl _ _).drew) (HND.out _ (Below.refl _ _).drew)).mono ?_
      rintro e w5 ⟨F', c', A, n, k, qs, S', rfl, hS5⟩
      have hS5' : Stepped W1 w5 F bn s' c (lg ++ es) Q F' c' A n k qs S' := hS5.from (Below.refl _ _).drew
      go_wp2_with fail
      refine hK.out _ _ ?_ (fun hHeld => ?_)
      · exact HSS.out _ hS5'.chg
      clear hK K
      try simp only [Act.put, List.getElem_toArray, List.getElem_cons_succ, List.getElem_cons_zero]
      try simp only [Act.put, List.setIfInBounds_toArray, List.set_cons_zero, List.set_cons_succ]
      refine wpAnyH_take (i := 6) (v := .tuple #[(.agg #[.int .i64 s'.term, .int .i64 s'.vote, .bool fl, .int .i64 fr, .slice A n k, .slice none 0 0, .int .i64 s'.commit, .slice none 0 0, .int .i64 s'.role, .int .i64 s'.leader, .int .i64 s'.first, .int .i64 s'.last]), .int .i64 0]) rfl (by kernel_rfl) (by kernel_rfl) (by kernel_rfl) (fun _ _ _ h => h) (Or.inl ⟨by rfl, ?_⟩) (by assumption) ?_
      · intro w hSw; go_simp
      try simp only [Act.put, List.getElem_toArray, List.getElem_cons_succ, List.getElem_cons_zero]
      try simp only [List.setIfInBounds_toArray, List.set_cons_zero, List.set_cons_succ]
      refine wpAnyH_take (i := 7) (v := (.agg #[.int .i64 s'.term, .int .i64 s'.vote, .bool fl, .int .i64 fr, .slice A n k, .slice none 0 0, .int .i64 s'.commit, .slice none 0 0, .int .i64 s'.role, .int .i64 s'.leader, .int .i64 s'.first, .int .i64 s'.last])) rfl (by kernel_rfl) (by kernel_rfl) (by kernel_rfl) (fun _ _ _ h => h) (Or.inl ⟨by rfl, ?_⟩) (by assumption) ?_
      · intro w hSw; go_simp
      try simp only [Act.put, List.getElem_toArray, List.getElem_cons_succ, List.getElem_cons_zero]
      try simp only [List.setIfInBounds_toArray, List.set_cons_zero, List.set_cons_succ]
      refine wpAnyH_take (i := 8) (v := .int .i64 0) rfl (by kernel_rfl) (by kernel_rfl) (by kernel_rfl) (fun _ _ _ h => h) (Or.inl ⟨by rfl, ?_⟩) (by assumption) ?_
      · intro w hSw; go_simp
      try simp only [Act.put, List.getElem_toArray, List.getElem_cons_succ, List.getElem_cons_zero]
      try simp only [List.setIfInBounds_toArray, List.set_cons_zero, List.set_cons_succ]
      refine wpAnyH_ready (rs := [9]) (by kernel_rfl) (by simp) ?_
      refine AllReadyH.cons rfl (fun K hK => ?_) AllReadyH.nil
      go_simp
      refine hK.out _ _ ?_ (fun hHeld => ?_)
      · exact HSS.out _ (hS5'.chg.alloc _)
      clear hK K
      try simp only [Act.put, List.getElem_toArray, List.getElem_cons_succ, List.getElem_cons_zero]
      try simp only [Act.put, List.setIfInBounds_toArray, List.set_cons_zero, List.set_cons_succ]
      have hy7 := World.alloc_at w5 (.cells #[.int .i64 0, .int .i64 0, .bool false, .int .i64 0, .slice none 0 0, .slice none 0 0, .int .i64 0, .slice none 0 0, .int .i64 0, .int .i64 0, .int .i64 0, .int .i64 0] 80)
      have hb7 := below_alloc1 w5 (.cells #[.int .i64 0, .int .i64 0, .bool false, .int .i64 0, .slice none 0 0, .slice none 0 0, .int .i64 0, .slice none 0 0, .int .i64 0, .int .i64 0, .int .i64 0, .int .i64 0] 80)
      have hz7 := World.alloc_size w5 (.cells #[.int .i64 0, .int .i64 0, .bool false, .int .i64 0, .slice none 0 0, .slice none 0 0, .int .i64 0, .slice none 0 0, .int .i64 0, .int .i64 0, .int .i64 0, .int .i64 0] 80)
      obtain ⟨y, hy⟩ : ∃ y, y = w5.heap.size := ⟨_, rfl⟩
      have hy1 : W1.heap.size ≤ y := by rw [hy]; exact hS5'.chg.size
      have hS7 : Stepped W1 (w5.alloc (.cells #[.int .i64 0, .int .i64 0, .bool false, .int .i64 0, .slice none 0 0, .slice none 0 0, .int .i64 0, .slice none 0 0, .int .i64 0, .int .i64 0, .int .i64 0, .int .i64 0] 80)) F bn s' c (lg ++ es) Q F' c' A n k qs S' := hS5'.then (fun i hi hl => hb7.block i hl) hb7.size (hS5'.chg.below hb7)
      have hyF : ¬ F' y ∧ ¬ S' y := ⟨fun hf => by have := hS5'.nd.rest.bdF y hf; omega, fun hf => by have := (hS5'.fresh y hf).2.1; omega⟩
      rw [← hy] at hy7 hz7
      rw [← hy]
      clear hy hS5 hS5' hb7
      generalize w5.alloc (.cells #[.int .i64 0, .int .i64 0, .bool false, .int .i64 0, .slice none 0 0, .slice none 0 0, .int .i64 0, .slice none 0 0, .int .i64 0, .int .i64 0, .int .i64 0, .int .i64 0] 80) = w7 at hHeld hS7 hy7 hz7 ⊢
      obtain ⟨c0, c1, c2, c3, c4, c5, c6, c7, c8, c9, c10, c11⟩ := cells12 hy7
      have hf7 := frozen_block hy7
      have hly7 := block_lt hy7
      have st := store12 hy7 (.int .i64 s'.term) (.int .i64 s'.vote) (.bool fl) (.int .i64 fr) (.slice A n k) (.slice none 0 0) (.int .i64 s'.commit) (.slice none 0 0) (.int .i64 s'.role) (.int .i64 s'.leader) (.int .i64 s'.first) (.int .i64 s'.last)
      have hyb : b1 ≠ y ∧ x ≠ y := ⟨by have := HZ1.out; omega, by have := HZ1.out; omega⟩
      refine wpAnyH_ready (rs := [10]) (by kernel_rfl) (by simp) ?_
      refine AllReadyH.cons rfl (fun K hK => ?_) AllReadyH.nil
      go_simp
      refine hK.out _ _ ?_ (fun hHeld => ?_)
      · exact ⟨(st.2.1 x hyb.2).trans (HSS.out _ hS7.chg).1, (st.2.1 b1 hyb.1).trans (HSS.out _ hS7.chg).2⟩
      clear hK K
      try simp only [Act.put, List.getElem_toArray, List.getElem_cons_succ, List.getElem_cons_zero]
      try simp only [Act.put, List.setIfInBounds_toArray, List.set_cons_zero, List.set_cons_succ]
      refine wpAnyH_take (i := 11) (v := .int .i64 0) rfl (by kernel_rfl) (by kernel_rfl) (by kernel_rfl) (fun _ _ _ h => h) (Or.inl ⟨by rfl, ?_⟩) (by assumption) ?_
      · intro w hSw; go_simp
      try simp only [Act.put, List.getElem_toArray, List.getElem_cons_succ, List.getElem_cons_zero]
      try simp only [List.setIfInBounds_toArray, List.set_cons_zero, List.set_cons_succ]
      refine wpAnyH_done (by kernel_rfl) ?_ _
      try simp only [Act.put, List.getElem_toArray, List.getElem_cons_succ, List.getElem_cons_zero]
      try simp only [Act.put, List.setIfInBounds_toArray, List.set_cons_zero, List.set_cons_succ]
      go_wp2_with fail
      go_meet
      exact ⟨y, rfl, rfl, Lib.hid ⟨F', c', A, n, k, qs, S', st.1, hS7.then (fun i hi hl => st.2.1 i (fun e => by subst e; rcases hi with hi | hi; exact hyF.1 hi; exact hyF.2 hi)) (Nat.le_of_eq st.2.2.1.symm) (hS7.chg.trans2 (G := fun i => i = y) (chg12 _ _ _ _ _ _ _ _ _ _ _ _ _ _) (fun i hi => .inr (hi ▸ hy1))), hy1, hyF.1, hyF.2⟩⟩
    ·
      go_simp
      refine hK.out _ _ ?_ (fun hHeld => ?_)
      · exact HSS.out _ (Chg.refl.alloc _).drew
      clear hK K
      try simp only [Act.put, List.getElem_toArray, List.getElem_cons_succ, List.getElem_cons_zero]
      try simp only [Act.put, List.setIfInBounds_toArray, List.set_cons_zero, List.set_cons_succ]
      have hy4 : (W1.alloc (.cells #[.int .i64 0, .int .i64 0, .bool false, .int .i64 0, .slice none 0 0, .slice none 0 0, .int .i64 0, .slice none 0 0, .int .i64 0, .int .i64 0, .int .i64 0, .int .i64 0] 80)).drew.heap[W1.heap.size]? = _ := World.alloc_at W1 (.cells #[.int .i64 0, .int .i64 0, .bool false, .int .i64 0, .slice none 0 0, .slice none 0 0, .int .i64 0, .slice none 0 0, .int .i64 0, .int .i64 0, .int .i64 0, .int .i64 0] 80)
      have hb4 : Below W1.heap.size W1 (W1.alloc (.cells #[.int .i64 0, .int .i64 0, .bool false, .int .i64 0, .slice none 0 0, .slice none 0 0, .int .i64 0, .slice none 0 0, .int .i64 0, .int .i64 0, .int .i64 0, .int .i64 0] 80)).drew := ((Below.refl _ _).alloc (Nat.le_refl _) _).drew
      obtain ⟨y, hy⟩ : ∃ y, y = W1.heap.size := ⟨_, rfl⟩
      have hy1 : W1.heap.size ≤ y := Nat.le_of_eq hy.symm
      try rw [HZ1.out] at hHeld
      rw [← hy] at hy4
      rw [← hy]
      clear hy
      generalize (W1.alloc (.cells #[.int .i64 0, .int .i64 0, .bool false, .int .i64 0, .slice none 0 0, .slice none 0 0, .int .i64 0, .slice none 0 0, .int .i64 0, .int .i64 0, .int .i64 0, .int .i64 0] 80)).drew = w4 at hHeld hy4 hb4 ⊢
      refine wpAnyH_ready (rs := [5]) (by kernel_rfl) (by simp) ?_
      refine AllReadyH.cons rfl (fun K hK => ?_) AllReadyH.nil
      go_simp
      refine (HST.out _ (HB1.out.trans (hb4.mono HB1.out.size)) (HND.out _ hb4)).mono ?_
      rintro e w7 ⟨F', c', A, n, k, qs, S', rfl, hS5⟩
      have hS7 : Stepped W1 w7 F bn s' c (lg ++ es) Q F' c' A n k qs S' := hS5.from hb4
      have hly4 := block_lt hy4
      have hyN : ¬ F y := fun hf => by have := (HNF.out y hf).1; have := HZ1.out; omega
      have hyF : ¬ F' y ∧ ¬ S' y := ⟨fun hf => by rcases hS5.sub' y hf with hf | hf; exact hyN hf; omega, fun hf => by have := (hS5.fresh y hf).1; omega⟩
      have hy7 := (hS5.chg.keep hly4 hyN).trans hy4
      clear hS5 hb4
      go_wp2_with fail
      refine hK.out _ _ ?_ (fun hHeld => ?_)
      · exact HSS.out _ hS7.chg
      clear hK K
      try simp only [Act.put, List.getElem_toArray, List.getElem_cons_succ, List.getElem_cons_zero]
      try simp only [Act.put, List.setIfInBounds_toArray, List.set_cons_zero, List.set_cons_succ]
      refine wpAnyH_take (i := 6) (v := .tuple #[(.agg #[.int .i64 s'.term, .int .i64 s'.vote, .bool fl, .int .i64 fr, .slice A n k, .slice none 0 0, .int .i64 s'.commit, .slice none 0 0, .int .i64 s'.role, .int .i64 s'.leader, .int .i64 s'.first, .int .i64 s'.last]), .int .i64 0]) rfl (by kernel_rfl) (by kernel_rfl) (by kernel_rfl) (fun _ _ _ h => h) (Or.inl ⟨by rfl, ?_⟩) (by assumption) ?_
      · intro w hSw; go_simp
      try simp only [Act.put, List.getElem_toArray, List.getElem_cons_succ, List.getElem_cons_zero]
      try simp only [List.setIfInBounds_toArray, List.set_cons_zero, List.set_cons_succ]
      refine wpAnyH_take (i := 7) (v := (.agg #[.int .i64 s'.term, .int .i64 s'.vote, .bool fl, .int .i64 fr, .slice A n k, .slice none 0 0, .int .i64 s'.commit, .slice none 0 0, .int .i64 s'.role, .int .i64 s'.leader, .int .i64 s'.first, .int .i64 s'.last])) rfl (by kernel_rfl) (by kernel_rfl) (by kernel_rfl) (fun _ _ _ h => h) (Or.inl ⟨by rfl, ?_⟩) (by assumption) ?_
      · intro w hSw; go_simp
      try simp only [Act.put, List.getElem_toArray, List.getElem_cons_succ, List.getElem_cons_zero]
      try simp only [List.setIfInBounds_toArray, List.set_cons_zero, List.set_cons_succ]
      refine wpAnyH_take (i := 8) (v := .int .i64 0) rfl (by kernel_rfl) (by kernel_rfl) (by kernel_rfl) (fun _ _ _ h => h) (Or.inl ⟨by rfl, ?_⟩) (by assumption) ?_
      · intro w hSw; go_simp
      try simp only [Act.put, List.getElem_toArray, List.getElem_cons_succ, List.getElem_cons_zero]
      try simp only [List.setIfInBounds_toArray, List.set_cons_zero, List.set_cons_succ]
      obtain ⟨c0, c1, c2, c3, c4, c5, c6, c7, c8, c9, c10, c11⟩ := cells12 hy7
      have hf7 := frozen_block hy7
      have hly7 := block_lt hy7
      have st := store12 hy7 (.int .i64 s'.term) (.int .i64 s'.vote) (.bool fl) (.int .i64 fr) (.slice A n k) (.slice none 0 0) (.int .i64 s'.commit) (.slice none 0 0) (.int .i64 s'.role) (.int .i64 s'.leader) (.int .i64 s'.first) (.int .i64 s'.last)
      have hyb : b1 ≠ y ∧ x ≠ y := ⟨by have := HZ1.out; omega, by have := HZ1.out; omega⟩
      refine wpAnyH_ready (rs := [10]) (by kernel_rfl) (by simp) ?_
      refine AllReadyH.cons rfl (fun K hK => ?_) AllReadyH.nil
      go_simp
      refine hK.out _ _ ?_ (fun hHeld => ?_)
      · exact ⟨(st.2.1 x hyb.2).trans (HSS.out _ hS7.chg).1, (st.2.1 b1 hyb.1).trans (HSS.out _ hS7.chg).2⟩
      clear hK K
      try simp only [Act.put, List.getElem_toArray, List.getElem_cons_succ, List.getElem_cons_zero]
      try simp only [Act.put, List.setIfInBounds_toArray, List.set_cons_zero, List.set_cons_succ]
      refine wpAnyH_take (i := 11) (v := .int .i64 0) rfl (by kernel_rfl) (by kernel_rfl) (by kernel_rfl) (fun _ _ _ h => h) (Or.inl ⟨by rfl, ?_⟩) (by assumption) ?_
      · intro w hSw; go_simp
      try simp only [Act.put, List.getElem_toArray, List.getElem_cons_succ, List.getElem_cons_zero]
      try simp only [List.setIfInBounds_toArray, List.set_cons_zero, List.set_cons_succ]
      refine wpAnyH_done (by kernel_rfl) ?_ _
      try simp only [Act.put, List.getElem_toArray, List.getElem_cons_succ, List.getElem_cons_zero]
      try simp only [Act.put, List.setIfInBounds_toArray, List.set_cons_zero, List.set_cons_succ]
      go_wp2_with fail
      go_meet
      exact ⟨y, rfl, rfl, Lib.hid ⟨F', c', A, n, k, qs, S', st.1, hS7.then (fun i hi hl => st.2.1 i (fun e => by subst e; rcases hi with hi | hi; exact hyF.1 hi; exact hyF.2 hi)) (Nat.le_of_eq st.2.2.1.symm) (hS7.chg.trans2 (G := fun i => i = y) (chg12 _ _ _ _ _ _ _ _ _ _ _ _ _ _) (fun i hi => .inr (hi ▸ hy1))), hy1, hyF.1, hyF.2⟩⟩
  case rest =>
    obtain ⟨y, rfl, rfl, hR⟩ := hcut
    obtain ⟨F', c', A, n, k, qs, S', hy, hS, hyx, hyF, hyS⟩ := hR.out
    have hs2 := HSS.out _ hS.chg
    have hr2 : wc.heap[x + 1]? = some (.cells #[.int .i64 0, .int .i64 0, .bool false, .int .i64 0, .slice none 0 0, .slice none 0 0, .int .i64 0, .slice none 0 0, .int .i64 0, .int .i64 0, .int .i64 0, .int .i64 0] 80 (0, 0)) := (hS.chg.keep (by have := HZ1.out; omega) (fun hf => by have := (HNF.out _ hf).1; omega)).trans HR1.out
    have HY := Lib.hid hy
    have HS := Lib.hid hS
    have HYN := Lib.hid (And.intro hyx (And.intro hyF hyS))
    have HE2 := Lib.hid hs2.1
    have HB2 := Lib.hid hs2.2
    have HR2 := Lib.hid hr2
    obtain ⟨y0, y1, y2, y3, y4, y5, y6, y7, y8, y9, y10, y11⟩ := cells12 hy
    obtain ⟨r0, r1, r2, r3, r4, r5, r6, r7, r8, r9, r10, r11⟩ := cells12 hr2
    have hlr := block_lt hr2
    have hly := block_lt hy
    have hfr := frozen_block hr2
    clear hy hS hyx hyF hyS hs2 hr2 hR
    go_wp2_with (fail)
    have st := store12 HR2.out (.int .i64 s'.term) (.int .i64 s'.vote) (.bool fl) (.int .i64 fr) (.slice A n k) (.slice none 0 0) (.int .i64 s'.commit) (.slice none 0 0) (.int .i64 s'.role) (.int .i64 s'.leader) (.int .i64 s'.first) (.int .i64 s'.last)
    have hSw := HS.out.from HB1.out
    have hq1 := HX.out
    have hq2 := HZ1.out
    have hS3 := hSw.then (fun i hi hl => st.2.1 i (fun e => by
      subst e
      rcases hi with hi | hi
      · rcases HS.out.sub' _ hi with hf | hf
        · have := (HNF.out _ hf).1; omega
        · omega
      · have := (HS.out.fresh _ hi).1; omega)) (Nat.le_of_eq st.2.2.1.symm) (hSw.chg.trans2 (G := fun i => i = x + 1) (chg12 _ _ _ _ _ _ _ _ _ _ _ _ _ _) (fun i hi => .inr (by omega)))
    have hE3 := (st.2.1 x (by omega)).trans HE2.out
    have hR3 := st.1
    clear y0 y1 y2 y3 y4 y5 y6 y7 y8 y9 y10 y11 r0 r1 r2 r3 r4 r5 r6 r7 r8 r9 r10 r11 hlr hly hfr st hSw
    generalize ((((((((((((wc.setCell ⟨x + 1, 0, none⟩ (.int .i64 s'.term)).setCell ⟨x + 1, 1, none⟩ (.int .i64 s'.vote)).setCell ⟨x + 1, 2, none⟩ (.bool fl)).setCell ⟨x + 1, 3, none⟩ (.int .i64 fr)).setCell ⟨x + 1, 4, none⟩ (.slice A n k)).setCell ⟨x + 1, 5, none⟩ (.slice none 0 0)).setCell ⟨x + 1, 6, none⟩ (.int .i64 s'.commit)).setCell ⟨x + 1, 7, none⟩ (.slice none 0 0)).setCell ⟨x + 1, 8, none⟩ (.int .i64 s'.role)).setCell ⟨x + 1, 9, none⟩ (.int .i64 s'.leader)).setCell ⟨x + 1, 10, none⟩ (.int .i64 s'.first)).setCell ⟨x + 1, 11, none⟩ (.int .i64 s'.last)) = W3 at hS3 hE3 hR3 ⊢
    have HS3 := Lib.hid hS3
    have HE3 := Lib.hid hE3
    have HR3 := Lib.hid hR3
    clear hS3 hE3 hR3 hq1 hq2
    refine (num_zero W3).mono ?_
    rintro e w5 ⟨rfl, hw5⟩
    obtain rfl : W3 = w5 := hw5.symm
    obtain ⟨e0, e1, e2, e3, e4, e5, e6, e7, e8, e9, e10, e11, e12, e13, e14, e15⟩ := cells16 HE3.out
    obtain ⟨r0, r1, r2, r3, r4, r5, r6, r7, r8, r9, r10, r11⟩ := cells12 HR3.out
    have hlr := block_lt HR3.out
    have hle := block_lt HE3.out
    go_wp2_with (fail)
    have hO := HO.out
    have hT := HT.out
    have hgl : g.dl.length = lg.length := by rw [← hO.glog]; simp
    have hqs := HS3.out.con
    have hss := hT.sn
    have hcase : (s'.from_ = 0 ∧ es = [] ∧ s'.term = t ∧ fl = false ∧ qs = []) ∨ (s'.from_ = lg.length + 1 ∧ fl = true ∧ fr = lg.length + 1 ∧ qs.map con = es) := by
      rcases hT.from_ with ⟨h1, h2, h3⟩ | h1
      · left
        refine ⟨h1, h2, h3, ?_, ?_⟩
        · rw [HFL.out, h1, h3, hO.st]; simp
        · rw [h1] at hqs; simpa using hqs
      · right
        have hpos : 0 < s'.from_ := by omega
        refine ⟨h1, ?_, ?_, ?_⟩
        · rw [HFL.out]; simp [hpos]
        · rw [HFR.out, if_pos hpos, h1]
        · rw [if_pos hpos, h1, hss] at hqs
          rw [hqs, show ((lg.length : Int) + 1 - 0 - 1).toNat = lg.length by omega, List.drop_left]
    have hql : qs.length = es.length := by
      rcases hcase with ⟨_, h2, _, _, h5⟩ | ⟨_, _, _, h5⟩
      · rw [h2, h5]; rfl
      · rw [← h5]; simp
    have hqc : qs.map con = es := by
      rcases hcase with ⟨_, h2, _, _, h5⟩ | ⟨_, _, _, h5⟩
      · rw [h2, h5]; rfl
      · exact h5
    have hcm1 := hT.cm1
    have hcm2 := hT.cm2
    have hlen := hT.len
    have ht0 := hO.t0
    have ht10 := hO.t10
    have hgt := hO.gt
    have hgv := hO.gv
    have hgcm := hO.gcm
    have hgro := hO.gro
    have hst := hO.st
    have htm : okI s'.term ∧ 0 ≤ s'.term ∧ s'.term ≤ 10 ∧ t ≤ s'.term := by
      unfold okI
      rcases hT.term with ⟨h1, _⟩ | ⟨h1, h2⟩ <;> omega
    have hAW : AW W3 S bw b1 h g := ⟨hO.aw.at_.chg HS3.out.chg hO.dis, hO.aw.kinv, hO.aw.high, hO.aw.cm0, hO.aw.cmh, hO.aw.vo, hO.aw.le⟩
    have hmut := hO.aw.at_.mutLt
    refine (done_yes bw b1 h g S S' kind draw m0 m1 m2 m3 m4 m5 m6 m7 m8 m9 k12 k13 k14 k15 s'.term s'.vote fr s'.commit s'.role s'.leader s'.first s'.last fl A n k qs W3 hAW HK.out (fun h4 hn => by rw [hgt]; exact hT.lead h4 (by rw [← hgro]; exact hn)) ?_ hT.vote hT.led (by omega) (by rw [hgl, hql]; exact hcm2) (by omega) htm.1 HS3.out.ents HS3.out.len.1 HS3.out.len.2 (fun i hi => ⟨(HS3.out.fresh i hi).2.1, fun hm => by have := hmut i hm; have := (HS3.out.fresh i hi).1; omega⟩) (fun hf => ?_) (fun hf => ?_)).mono ?_
    · rcases hT.term with ⟨h1, h2⟩ | ⟨h1, h2⟩
      · exact .inl ⟨by rw [hgt, h1], by rw [hgv, h2]⟩
      · refine .inr ⟨by rw [hgt]; exact h1, ?_⟩
        rcases hcase with ⟨_, _, h3, _⟩ | ⟨_, h3, _⟩
        · omega
        · exact h3
    · rcases hcase with ⟨_, _, _, h3, _⟩ | ⟨_, _, h3, _⟩
      · rw [h3] at hf; cases hf
      · rw [h3, hgl]
    · rcases hcase with ⟨_, _, _, _, h3⟩ | ⟨_, h3, _⟩
      · exact h3
      · rw [h3] at hf; cases hf
    rintro e w4 ⟨rfl, S2, h2, g2, hD⟩
    have HD := Lib.hid hD
    have HTM := Lib.hid htm
    have HQC := Lib.hid hqc
    have HMU := Lib.hid hmut
    clear hD htm hqc hmut hcase hql hcm1 hcm2 hlen ht0 ht10 hgt hgv hgcm hgro hst hqs hss hO hT hgl hAW e0 e1 e2 e3 e4 e5 e6 e7 e8 e9 e10 e11 e12 e13 e14 e15 r0 r1 r2 r3 r4 r5 r6 r7 r8 r9 r10 r11 hlr hle
    go_wp2
    go_ret2
    have hO := HO.out
    have hT := HT.out
    have hD := HD.out
    have hS := HS3.out
    have hmut := HMU.out
    have hFm : ∀ i, F' i → ¬ g.mut bw b1 i := fun i hi hm => by
      rcases hS.sub' i hi with hf | hf
      · exact (hO.dis i hf).2 hm
      · have := hmut i hm; omega
    have hg2 : ∀ i, g2.mut bw b1 i → g.mut bw b1 i := fun i hi => by
      unfold WG.mut at hi ⊢
      rw [hD.same.mL, hD.same.mV, hD.same.mK, hD.same.mT] at hi
      exact hi
    have hsz3 := hS.chg.size
    refine ⟨rfl, S2, F', h2, g2, c', ⟨hD.aw, ?_, fun i hi => ⟨fun hs => ?_, fun hm => hFm i hi (hg2 i hm)⟩, hD.same.L.trans hO.gL, hD.same.Mo.trans hO.gMo, hD.same.Bt.trans hO.gBt, hD.t, hD.v, hD.cm, hD.ro, ?_, hT.id, hT.L, hT.Mo, hT.Bt, rfl, hT.sn, hS.log, hS.peers.trans hO.peers, hS.msgs, hT.vote, ?_, ?_, hO.L2, hO.LM, hO.M30, hO.B1, hO.BL, HTM.out.2.1, HTM.out.2.2.1, ?_, hT.ok, ?_, fun i hi => ?_, fun i hi => hO.fM i (hg2 i hi)⟩, hS.q⟩
    · have hN := hS.nd
      rw [hD.same.bn]
      rw [HBN.out] at hN
      exact hN.keep hD.chg.size (fun i hi hl => hD.chg.keep hl (by
        rcases hi with hi | hi
        · exact hFm i hi
        · exact hi.elim))
    · have hbd := hS.nd.rest.bdF i hi
      rcases hD.sub' i hs with h1 | h1
      · rcases hS.sub' i hi with h3 | h3
        · exact (hO.dis i h3).1 h1
        · have := hO.aw.at_.bd i h1; omega
      · omega
    · rw [hD.log, hO.glog, HQC.out]
    · have := hT.cm1; have := hO.cm0; omega
    · have := hT.cm2; simpa using this
    · have := hT.len; simpa using this
    · have c1 : Chg (fun i => w0.heap.size ≤ i) w0 w := Chg.ofBelow hO.below
      have c2 := c1.trans2 hS.chg (fun i hi => .inl (hO.fF i hi))
      exact (c2.trans2 hD.chg (fun i hi => .inl (hO.fM i hi))).toBelow (fun i hi => hi)
    · rcases hS.sub' i hi with h1 | h1
      · exact hO.fF i h1
      · exact Nat.le_trans hO.below.size h1
end Go.Proofs.YtocogcgnahbpkaaGreat
