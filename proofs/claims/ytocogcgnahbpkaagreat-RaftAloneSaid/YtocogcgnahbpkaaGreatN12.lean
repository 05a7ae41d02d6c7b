/-
  raft.Node of a node alone: propose.
-/
import Derived.Test.YtocogcgnahbpkaaGreatN11
namespace Go.Proofs.YtocogcgnahbpkaaGreat
open Go.RowKit

structure BR where
  A : Option Addr
  n : Nat
  c : Nat
def encBR (x : BR) : List Value := [.slice x.A x.n x.c]
theorem len_BR (x : BR) : (encBR x).length = 1 := rfl

/-- Byte strings that are read, in blocks of S. -/
structure DataS (w : World) (S : Nat → Prop) (A : Option Addr) (ds : List (BR × List Int)) : Prop where
  row : RowS encBR 1 w S A (ds.map (·.1))
  each : ∀ p ∈ ds, RowS encB 1 w S p.1.A p.2 ∧ p.1.n = p.2.length ∧ p.2.length ≤ 140737488351232
theorem DataS.keep {w w' : World} {S : Nat → Prop} {A : Option Addr} {ds : List (BR × List Int)} (h : DataS w S A ds) (hk : ∀ i, S i → w'.heap[i]? = w.heap[i]?) : DataS w' S A ds := ⟨h.row.keep hk, fun p hp => ⟨(h.each p hp).1.keep hk, (h.each p hp).2⟩⟩
theorem data_at {w : World} {S : Nat → Prop} {k : Nat} {A : Option Addr} {ds : List (BR × List Int)} {p : BR × List Int} (h : DataS w S A ds) (hk : ds[k]? = some p) :
    ∃ b o, A = some ⟨b, o, none⟩ ∧ S b ∧ w.cell? ⟨b, o + k, none⟩ = some (.slice p.1.A p.1.n p.1.c) := by
  rcases h.row with h0 | ⟨b, o, hA, hb, hc⟩
  · have : ds = [] := by simpa using h0
    subst this; simp at hk
  · exact ⟨b, o, hA, hb, by simpa using hc k p.1 (by rw [List.getElem?_map, hk]; rfl) 0 _ rfl⟩

/-- The entries of proposed byte strings. -/
def entsOf (last term : Int) : List (List Int) → List E
  | [] => []
  | d :: r => ⟨last + 1, term, d⟩ :: entsOf (last + 1) term r
theorem entsOf_len (last term : Int) : ∀ ds, (entsOf last term ds).length = ds.length
  | [] => rfl
  | d :: r => by simp [entsOf, entsOf_len (last + 1) term r]
theorem entsOf_snoc (term : Int) : ∀ (last : Int) (ds : List (List Int)) (d : List Int), entsOf last term (ds ++ [d]) = entsOf last term ds ++ [⟨last + ds.length + 1, term, d⟩]
  | last, [], d => by simp [entsOf]
  | last, x :: r, d => by
    simp only [List.cons_append, entsOf, entsOf_snoc term (last + 1) r d, List.length_cons]
    congr 3; push_cast; congr 1; omega

def NS.prop1 (s : NS) (n k : Nat) : NS := NS.turned { s with first := s.snap + n + 1, last := s.snap + n + k } (s.snap + n + 1)
def NS.prop (s : NS) (l : List E) (mt : List (Int × Int)) (ds : List (List Int)) (np : Nat) : NS :=
  { s.prop1 l.length ds.length with commit := countFrom (s.prop1 l.length ds.length) (l ++ entsOf (s.snap + l.length) s.term ds) mt np (s.snap + l.length + ds.length - s.commit).toNat }

theorem turned_twice (s : NS) (last : Int) (k : Nat) (h : 0 ≤ last) : (s.turned (last + 1)).turned (last + k + 1) = s.turned (last + 1) := by
  by_cases h1 : s.from_ = 0 ∨ last + 1 < s.from_
  · have e : s.turned (last + 1) = { s with from_ := last + 1 } := by simp [NS.turned, h1]
    rw [e]
    unfold NS.turned
    rw [if_neg (by simp only; omega)]
  · have e : s.turned (last + 1) = s := by simp [NS.turned, h1]
    rw [e]
    unfold NS.turned
    rw [if_neg (by omega)]

structure PInv (w wr : World) (F G : Nat → Prop) (b : Nat) (s1 : NS) (c : NC) (last term : Int) (ds : List (List Int)) (k : Nat) (F' : Nat → Prop) (c' : NC) : Prop where
  nd : NdAt wr F' G b (if k = 0 then s1 else s1.turned (last + 1)) c'
  log : c'.log.map con = c.log.map con ++ entsOf last term (ds.take k)
  rest : c' = { c with lA := c'.lA, ln := c'.ln, lc := c'.lc, log := c'.log }
  chg : Chg F w wr
  sub : ∀ i, F i → F' i
  sub' : ∀ i, F' i → F i ∨ w.heap.size ≤ i

set_option maxRecDepth 100000 in
set_option maxHeartbeats 2000000 in
theorem propose_alone (b : Nat) (s : NS) (c : NC) (k0 k1 m0 m1 m2 m3 m4 m5 m6 m7 m8 m9 k13 k14 k15 : Value) (dA : Option Addr) (dn dc : Nat) (ds : List (BR × List Int)) (S F G : Nat → Prop) (w : World) (h : NdAt w F G b s c) (hd : DataS w S dA ds) (hdn : dn = ds.length) (hS : ∀ i, S i → i < w.heap.size ∧ ¬ F i)
    (h1 : 1 ≤ ds.length) (h2 : ds.length ≤ 16) (hr : s.role = 4) (hh : s.heir = 0) (he : s.snap + c.log.length + ds.length ≤ 1099511627776) (hl : c.log.length + ds.length ≤ 65536) (h0 : 0 ≤ s.snap) (hc0 : s.snap ≤ s.commit) (hc1 : s.commit ≤ s.snap + c.log.length)
    (hp1 : c.peers = [s.id]) (mR : Nat) (hmR : c.mtR = some mR) (hmt : c.mt = []) :
    Calls Tryz.prog 74 #[.pointer (some ⟨b, 0, none⟩), .agg #[k0, k1, m0, m1, m2, m3, m4, m5, m6, m7, m8, m9, .slice dA dn dc, k13, k14, k15]] w fun e w' => e = .returned (.int .i64 0) ∧ ∃ F' c', NdAt w' F' G b (s.prop (c.log.map con) [] (ds.map (·.2)) 1) c' ∧
      c'.log.map con = c.log.map con ++ entsOf (s.snap + c.log.length) s.term (ds.map (·.2)) ∧ c' = { c with lA := c'.lA, ln := c'.ln, lc := c'.lc, log := c'.log } ∧ Chg F w w' ∧ (∀ i, F i → F' i) ∧ (∀ i, F' i → F i ∨ w.heap.size ≤ i) := by
  subst hdn
  have hln : c.ln = c.log.length := h.rest.log.ents.2.1
  have HLN := Lib.hid hln
  have g1 : s.snap + (c.ln : Int) + ds.length ≤ 1099511627776 := by omega
  have g2 : (c.ln : Int) + ds.length ≤ 65536 := by omega
  have g3 : decide (1 ≤ (ds.length : Int) ∧ (ds.length : Int) ≤ 16) = true := by simp; omega
  have g4 : (s.role != 4) = false := by rw [bne_eq_false_iff_eq]; exact hr
  have g5 : (s.heir != 0) = false := by rw [bne_eq_false_iff_eq]; exact hh
  have g6 : c.ln ≤ 65536 := by omega
  have g7 : s.snap ≤ 1099511627776 := by omega
  have g8 : decide (1099511627776 < s.snap + (c.ln : Int) + ds.length) = false := by simp; omega
  have g9 : decide (65536 < (c.ln : Int) + ds.length) = false := by simp; omega
  have HR := Lib.hid (And.intro hr (And.intro hh (And.intro hp1 (And.intro hmR hmt))))
  clear hln hr hh hp1 hmR hmt
  have hlt := h.lt
  have hB := h.blk
  have c12 := nc12 hB
  have c20 := nc20 hB
  have c8 := nc8 hB
  have hf := frozen_block hB
  have hbx := below_alloc1 w (.cells #[k0, k1, m0, m1, m2, m3, m4, m5, m6, m7, m8, m9, .slice dA ds.length dc, k13, k14, k15] 61)
  have HN0 := Lib.hid (h.below hbx)
  clear hB
  go_enter Tryz.func74, Tryz.ntmps74
  go_wp2_with (go_at_call 55; refine (within_any _ _ _ _).mono ?_; rintro e w' ⟨rfl, rfl⟩)
  have hbox : (w.alloc (.cells #[k0, k1, m0, m1, m2, m3, m4, m5, m6, m7, m8, m9, .slice dA ds.length dc, k13, k14, k15] 61)).heap[w.heap.size]? = some (.cells #[k0, k1, m0, m1, m2, m3, m4, m5, m6, m7, m8, m9, .slice dA ds.length dc, k13, k14, k15] 61 (0, 0)) := World.alloc_at w _
  have hd0 := hd.keep (w' := w.alloc (.cells #[k0, k1, m0, m1, m2, m3, m4, m5, m6, m7, m8, m9, .slice dA ds.length dc, k13, k14, k15] 61)) (fun i hi => Below.heap_alloc _ _ _ (hS i hi).1)
  have hz0 : (w.alloc (.cells #[k0, k1, m0, m1, m2, m3, m4, m5, m6, m7, m8, m9, .slice dA ds.length dc, k13, k14, k15] 61)).heap.size = w.heap.size + 1 := World.alloc_size w _
  generalize w.alloc (.cells #[k0, k1, m0, m1, m2, m3, m4, m5, m6, m7, m8, m9, .slice dA ds.length dc, k13, k14, k15] 61) = W0 at hbx HN0 hbox hd0 hz0 ⊢
  have HBX := Lib.hid hbox
  have HD0 := Lib.hid hd0
  have HZ0 := Lib.hid hz0
  have HBB := Lib.hid HN0.out.blk
  have h0' : -4611686018427387904 ≤ s.snap := by omega
  have hsn' : s.snap ≤ 4611686018427387904 := by omega
  have hl4' : c.ln ≤ 4611686018427387 := by omega
  have d27 := nc27 HBB.out
  have d28 := nc28 HBB.out
  have d8 := nc8 HBB.out
  have df := frozen_block HBB.out
  have x12 : W0.cell? ⟨w.heap.size, 12, none⟩ = some (.slice dA ds.length dc) := cell_block hbox 12 _ rfl
  clear hbox hd0 hz0 c12 c20 c8 hf hlt h hd
  have hne : w.heap.size ≠ b := by
    rintro e
    have := ne_typed HBX.out (by rw [e]; exact HBB.out)
    exact absurd this (by decide)
  refine (end_any b s c W0 HBB.out h0' hsn' hl4').mono ?_
  rintro e W1 ⟨rfl, nq1, rfl⟩
  go_wp2_with (fail)
  refine (end_any b s c _ ?_ h0' hsn' hl4').mono ?_
  exact HBB.out
  rintro e W1 ⟨rfl, nq2, rfl⟩
  go_wp2_with (fail)
  refine (end_any b s c _ ?_ h0' hsn' hl4').mono ?_
  exact HBB.out
  rintro e W1 ⟨rfl, nq3, rfl⟩
  go_wp2_with (fail)
  have hb5 := block_setCell (o := 28) (block_setCell (o := 27) (w := W0.drewN (nq1 + nq2 + nq3)) HBB.out (.int .i64 (s.snap + c.ln + 1))) (.int .i64 (s.snap + c.ln + ds.length))
  have hN5 := (HN0.out.drewN (nq1 + nq2 + nq3)).scal (s' := { s with first := s.snap + c.ln + 1, last := s.snap + c.ln + ds.length }) (chg1 (o := 28) (chg1 (o := 27) Chg.refl (.int .i64 (s.snap + c.ln + 1))) (.int .i64 (s.snap + c.ln + ds.length))) hb5
  have hC5 := chgF (o := 28) (chgF (o := 27) ((Chg.ofBelow (F := F) hbx).drewN (nq1 + nq2 + nq3)) HN0.out.hb (.int .i64 (s.snap + c.ln + 1))) HN0.out.hb (.int .i64 (s.snap + c.ln + ds.length))
  have hD5 := HD0.out.keep (w' := ((W0.drewN (nq1 + nq2 + nq3)).setCell ⟨b, 27, none⟩ (.int .i64 (s.snap + c.ln + 1))).setCell ⟨b, 28, none⟩ (.int .i64 (s.snap + c.ln + ds.length))) (fun i hi => by
    have hib : i ≠ b := fun e => (hS i hi).2 (e ▸ HN0.out.hb)
    rw [Below.heap_setCell _ _ _ _ hib, Below.heap_setCell _ _ _ _ hib]; rfl)
  clear hb5 d27 d28 d8 df x12 HBX HBB HN0 HD0 HZ0 hbx
  generalize ((W0.drewN (nq1 + nq2 + nq3)).setCell ⟨b, 27, none⟩ (.int .i64 (s.snap + c.ln + 1))).setCell ⟨b, 28, none⟩ (.int .i64 (s.snap + c.ln + ds.length)) = W5 at hN5 hC5 hD5 ⊢
  have HN5 := Lib.hid hN5
  have HD5 := Lib.hid hD5
  clear hN5 hD5
  obtain ⟨last, hlast⟩ : ∃ last : Int, last = s.snap + c.ln := ⟨_, rfl⟩
  have HLA := Lib.hid hlast
  clear hlast
  go_loopw [7, 58] (fun _ i wr => ∃ (k : Nat) (F' : Nat → Prop) (c' : NC), i = .int .i64 k ∧ k ≤ ds.length ∧ Hid (PInv W5 wr F G b { s with first := s.snap + c.ln + 1, last := s.snap + c.ln + ds.length } c last s.term (ds.map (·.2)) k F' c')) (fun _ i _ => ds.length - (intOf i).toNat)
  case atStart => exact ⟨0, F, c, rfl, Nat.zero_le _, Lib.hid ⟨HN5.out, by simp [entsOf], rfl, Chg.refl, fun _ h => h, fun _ h => .inl h⟩⟩
  case round =>
    obtain ⟨k, F', c', rfl, hk, HI⟩ := hrel
    by_cases hlt : k < ds.length
    · have hpk := List.getElem?_eq_getElem hlt
      have hDr := HD5.out.keep (w' := wr) (fun i hi => by
        have hi5 : i < W5.heap.size := Nat.lt_of_lt_of_le (hS i hi).1 hC5.size
        exact HI.out.chg.keep hi5 (hS i hi).2)
      obtain ⟨ba, o, hA, hSb, c0⟩ := data_at hDr hpk
      obtain ⟨hdr, hdn, hdl⟩ := hDr.each _ (List.getElem_mem hlt)
      have hdk : (ds.map (·.2)).take (k + 1) = (ds.map (·.2)).take k ++ [(ds[k]).2] := by
        rw [List.take_add_one]; simp [hpk]
      have HDK := Lib.hid hdk
      have HPK := Lib.hid hpk
      clear hpk hdk hDr
      subst hA
      generalize ds[k] = p at c0 hdr hdn hdl HDK HPK
      obtain ⟨sk, hsk⟩ : ∃ sk : NS, sk = (if k = 0 then { s with first := s.snap + c.ln + 1, last := s.snap + c.ln + ds.length } else NS.turned { s with first := s.snap + c.ln + 1, last := s.snap + c.ln + ds.length } (last + 1)) := ⟨_, rfl⟩
      have hks : sk.snap = s.snap ∧ sk.term = s.term := by
        rw [hsk]; split
        · exact ⟨rfl, rfl⟩
        · exact ⟨turned_snap _ _, turned_term _ _⟩
      have hnd := HI.out.nd
      rw [← hsk] at hnd
      have hlk : c'.ln = c'.log.length := hnd.rest.log.ents.2.1
      have hlk2 : c'.log.length = c.log.length + k := by
        have := congrArg List.length HI.out.log
        simp only [List.length_map, List.length_append, entsOf_len, List.length_take] at this
        omega
      have hS2 : ∀ i, S i → i < wr.heap.size ∧ i ≠ b := fun i hi => ⟨Nat.lt_of_lt_of_le (Nat.lt_of_lt_of_le (hS i hi).1 hC5.size) HI.out.chg.size, fun e => (hS i hi).2 (e ▸ HN5.out.hb)⟩
      have HND := Lib.hid hnd
      have HSK := Lib.hid hsk
      have HLK := Lib.hid (And.intro hlk hlk2)
      have c6 := nc6 hnd.blk
      rw [hks.2] at c6
      have HKS := Lib.hid hks
      have q1 : -4611686018427387904 ≤ sk.snap := by omega
      have q2 : sk.snap ≤ 4611686018427387904 := by omega
      have q3 : c'.ln ≤ 4611686018427387 := by omega
      have q4 : s.snap + (c'.ln : Int) + 1 ≤ 1099511627776 := by have := HLN.out; omega
      have q5 : c'.log.length ≤ 70000 := by have := HLN.out; omega
      have q6 : 0 ≤ sk.snap := by omega
      have q7 : sk.snap ≤ 2199023255552 := by omega
      have HDN := Lib.hid hdn
      have HNE := Lib.hid (show wr.heap.size ≠ b from fun e => by have := hnd.lt; omega)
      clear hnd hsk hlk hlk2 hks hdn
      have HJ := Lib.hid (fun nq => join_any b sk c' F' G _ (HND.out.below ((below_drewN' (Below.refl wr.heap.size wr) nq).alloc (Nat.le_refl _) (.cells #[.int .i64 (s.snap + c'.ln + 1), .int .i64 s.term, .slice p.1.A p.1.n p.1.c] 67))) (some ⟨wr.heap.size, 0, none⟩) 1 1 [(⟨s.snap + c'.ln + 1, s.term, p.1.A, p.1.n, p.1.c⟩, p.2)] (fun i => i = wr.heap.size ∨ S i)
        (ents_one (wr.drewN nq) _ _ p.1.A p.1.n p.1.c p.2 S (fun i hi => (hS2 i hi).1) (hdr.keep fun _ _ => rfl) HDN.out hdl) (fun i hi => hi.elim (fun e => e ▸ ⟨by simp, HNE.out⟩) (fun hs => ⟨by have := (hS2 i hs).1; simp; omega, (hS2 i hs).2⟩)) rfl (by simp) q5 q6 q7)
      have W1 : IntKind.i64.wrap (s.snap + (c'.ln : Int) + 1) = s.snap + (c'.ln : Int) + 1 := IntWalk.i64_in _ (by omega)
      have HEE := Lib.hid (show ∀ nq, Calls Tryz.prog 57 #[.pointer (some ⟨b, 0, none⟩)] (wr.drewN nq) fun e w' => e = .returned (.int .i64 (s.snap + c'.ln)) ∧ ∃ n, w' = (wr.drewN nq).drewN n from fun nq => by
        have := end_any b sk c' (wr.drewN nq) HND.out.blk q1 q2 q3
        rw [HKS.out.1] at this
        exact this)
      go_wp2_with (fail)
      go_region_held3 (fun w' => w'.cell? ⟨b, 6, none⟩ = some (.int .i64 s.term))
        (first | go_keep | (go_split_ands; exact (nc6 HN7.blk).trans (congrArg (fun x => some (Value.int .i64 x)) ((turned_term _ _).trans HKS.out.2))))
        (first
          | (go_at_call 57; refine (HEE.out _).mono ?_; rintro e w6 ⟨rfl, nq6, rfl⟩)
          | (go_at_call 104; refine (HJ.out _).mono ?_; rintro e w7 ⟨rfl, F7, c7, HN7, hq7, hc7, hC7, hF7, hF7'⟩; rw [if_neg (List.cons_ne_nil _ _)] at HN7))
      clear W1 c6
      have hP : PInv W5 w7 F G b { s with first := s.snap + c.ln + 1, last := s.snap + c.ln + ds.length } c last s.term (ds.map (·.2)) (k + 1) F7 c7 := by
        have hI := HI.out
        have hLK := HLK.out
        have hla := HLA.out
        refine ⟨?_, ?_, ?_, ((hI.chg.drewN _).alloc _).trans2 hC7 (fun i hi => hI.sub' i hi), fun i hi => hF7 i (hI.sub i hi), fun i hi => ?_⟩
        · rw [if_neg (Nat.succ_ne_zero k)]
          have e : sk.turned (sk.snap + c'.log.length + 1) = NS.turned { s with first := s.snap + c.ln + 1, last := s.snap + c.ln + ds.length } (last + 1) := by
            rw [HKS.out.1, hLK.2]
            have hln := HLN.out
            rw [HSK.out]
            split
            · next hz => subst hz; congr 1; rw [hla]; push_cast; omega
            · next hz =>
              rw [show s.snap + ((c.log.length + k : Nat) : Int) + 1 = last + k + 1 by rw [hla]; push_cast; omega]
              exact turned_twice _ last k (by rw [hla]; omega)
          rw [← e]; exact HN7
        · rw [hq7, hI.log, HDK.out, entsOf_snoc, List.append_assoc]
          congr 2
          simp only [List.map_cons, List.map_nil, con, List.length_take, List.length_map]
          congr 2
          have hln := HLN.out
          rw [hLK.1, hLK.2, hla, Nat.min_eq_left (Nat.le_of_lt hlt)]
          push_cast; omega
        · rw [hc7, hI.rest]
        · have := hI.chg.size
          rcases hF7' i hi with h | h
          · exact hI.sub' i h
          · right; simp at h; omega
      have HP := Lib.hid hP
      clear hP HN7 hq7 hc7 hC7 hF7 hF7'
      go_wp2
      go_roundw
      case rel => exact ⟨k + 1, F7, c7, by go_num, by omega, HP⟩
      case measure => simp [intOf]; omega
    · have hke : k = ds.length := by omega
      subst hke
      have hI := HI.out
      have hkz : ¬ ds.length = 0 := by omega
      have hnd := hI.nd
      rw [if_neg hkz] at hnd
      have hll : c'.log.length = c.log.length + ds.length := by
        have := congrArg List.length hI.log
        simp only [List.length_map, List.length_append, entsOf_len, List.length_take, Nat.min_self] at this
        exact this
      have HND := Lib.hid hnd
      have HLL := Lib.hid hll
      clear hI hnd hll
      go_wp2_with (fail)
      refine (count_any b _ c' F' G wr HND.out mR (by rw [HI.out.rest]; exact HR.out.2.2.2.1) (by rw [turned_snap]; exact h0) (by rw [turned_snap]; show s.snap ≤ _; omega) (by rw [HLL.out]; omega) (by rw [turned_snap, turned_commit]; exact hc0) (by rw [turned_snap, turned_commit, HLL.out]; push_cast; show s.commit ≤ s.snap + _; omega) (by rw [show c'.mt = [] by rw [HI.out.rest]; exact HR.out.2.2.2.2]; decide)).mono ?_
      rintro e W8 ⟨rfl, hC8, hN8⟩
      have HN8 := Lib.hid hN8
      have HC8 := Lib.hid hC8
      clear hN8 hC8
      have hpe : c'.peers = [s.id] := by rw [HI.out.rest]; exact HR.out.2.2.1
      have HPE := Lib.hid hpe
      clear hpe
      go_wp2_with (fail)
      refine (sendAll_alone b _ c' W8 HN8.out.blk HN8.out.rest.peers (by rw [HPE.out]; simp) (by show others (NS.turned _ _).id c'.peers = []; rw [turned_id, HPE.out]; simp [others])).mono ?_
      rintro e W9 ⟨rfl, hb9⟩
      go_wp2
      go_ret
      have hI := HI.out
      have hz5 := hC5.size
      refine ⟨rfl, F', c', ?_, ?_, hI.rest, ((hC5.trans hI.chg).trans2 HC8.out fun i hi => ?_).below hb9, hI.sub, fun i hi => ?_⟩
      · have hN := HN8.out.below hb9
        have e1 : c'.mt = [] := by rw [hI.rest]; exact HR.out.2.2.2.2
        have e2 : c'.log.map con = c.log.map con ++ entsOf (s.snap + c.log.length) s.term (ds.map (·.2)) := by
          rw [hI.log, HLA.out, HLN.out, List.take_of_length_le (by simp)]
        rw [e1, HPE.out, e2, HLL.out, HLA.out, HLN.out] at hN
        simp only [turned_snap, turned_commit] at hN
        simp only [NS.prop, NS.prop1, List.length_map, turned_snap]
        rw [show (s.snap + (c.log.length : Int) + ds.length - s.commit).toNat = (s.snap + ((c.log.length + ds.length : Nat) : Int) - s.commit).toNat by congr 1; omega]
        exact hN
      · rw [hI.log, HLA.out, HLN.out, List.take_of_length_le (by simp)]
      · rcases hI.sub' i hi with h | h
        · exact .inl h
        · right; omega
      · rcases hI.sub' i hi with h | h
        · exact .inl h
        · right; omega
end Go.Proofs.YtocogcgnahbpkaaGreat
