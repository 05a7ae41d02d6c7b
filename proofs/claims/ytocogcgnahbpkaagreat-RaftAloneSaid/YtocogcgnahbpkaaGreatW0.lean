/-
  The world of one node in memory.
-/
import Derived.Test.YtocogcgnahbpkaaGreatN6
import Derived.DeepKeys3
namespace Go.Proofs.YtocogcgnahbpkaaGreat
open Go.RowKit

/-! ### the key of a vote -/
def encV (p : Int × Int) : Value := .agg #[.int .i64 p.1, .int .i64 p.2]
def okV (p : Int × Int) : Prop := okI p.1 ∧ okI p.2
theorem keyOf_vote {a b : Int} (ha : okI a) (hb : okI b) : keyOf Tryz.prog 150 (.agg #[.int .i64 a, .int .i64 b]) = some (.string (keyBytes [.int .i64 a, .int .i64 b])) := by
  have wa : (Lit.int .i64 a).wf = true := by unfold okI at ha; simp [Lit.wf, IntKind.min, IntKind.max, IntKind.bits, IntKind.signed]; omega
  have wb : (Lit.int .i64 b).wf = true := by unfold okI at hb; simp [Lit.wf, IntKind.min, IntKind.max, IntKind.bits, IntKind.signed]; omega
  have hkt : Tryz.prog.keyType 150 = true := by kernel_rfl
  have hc : Tryz.prog.cellsOf 150 = 2 := by kernel_rfl
  have hc3 : Tryz.prog.cellsOf 3 = 1 := by kernel_rfl
  have hm : ∃ m, Tryz.prog.types.size = m + 1 := ⟨Tryz.prog.types.size - 1, by kernel_rfl⟩
  obtain ⟨m, hm⟩ := hm
  unfold keyOf
  simp only [Tryz.underlying150]
  rw [if_pos (by simp [hkt, Value.formed, Tryz.underlying150, hc]), hm]
  unfold Program.keyLits
  simp only [Tryz.underlying150, Value.cells]
  rw [if_pos (by rw [hc]; exact ⟨rfl, by simp⟩)]
  simp [hc3, Program.keyLits, Tryz.underlying3, wa, wb]
theorem KV : KeyEnc Tryz.prog 150 encV okV where
  keyed := Maps.Keyed.of_law (deep_law (m := 3) (by omega) (by kernel_rfl) (by kernel_rfl) (by rw [Tryz.underlying150]))
  reads x hx := ⟨_, keyOf_vote hx.1 hx.2⟩
  inj x y h := by
    unfold encV at h
    injection h with h
    have h := congrArg Array.toList h
    simp only [List.cons.injEq, Value.int.injEq, true_and, and_true] at h
    exact Prod.ext h.1 h.2

def encK (q : LE × List Int) : Value := .agg #[.int .i64 q.1.idx, .int .i64 q.1.term, .slice q.1.A q.1.n q.1.c]

/-- What stands in the world and in its one seat. -/
structure WG where
  L : Int
  Mo : Int
  Bt : Int
  pA : Option Addr
  pc : Nat
  sb : Nat
  so : Nat
  sc : Nat
  bn : Nat
  t : Int
  v : Int
  cm : Int
  most : Int
  ro : Int
  le : Int
  dA : Option Addr
  dn : Nat
  dc : Nat
  dl : List (LE × List Int)
  mL : Nat
  mV : Nat
  mK : Nat
  mT : Nat
  led : List (Int × Int)
  voted : List ((Int × Int) × Int)
  known : List (Int × (LE × List Int))
  tm : List (Int × Int)
  high : Int
def wcells (g : WG) : Array Value := #[.int .i64 0, .slice g.pA 1 g.pc, .int .i64 g.L, .int .i64 g.Mo, .int .i64 g.Bt, .int .i64 5, .slice (some ⟨g.sb, g.so, none⟩) 1 g.sc, .slice none 0 0, .map (some g.mL), .map (some g.mV), .map (some g.mK), .map (some g.mT), .int .i64 g.high, .bool false]
def scells (g : WG) : Array Value := #[.int .i64 1, .pointer (some ⟨g.bn, 0, none⟩), .pointer none, .int .i64 g.t, .int .i64 g.v, .int .i64 0, .int .i64 0, .slice g.dA g.dn g.dc, .int .i64 g.cm, .int .i64 g.most, .int .i64 g.ro, .int .i64 g.le]
def WG.mut (g : WG) (bw b1 : Nat) (i : Nat) : Prop := i = bw ∨ i = b1 ∨ i = g.mL ∨ i = g.mV ∨ i = g.mK ∨ i = g.mT

structure WAt (w : World) (S : Nat → Prop) (bw b1 : Nat) (g : WG) : Prop where
  wb : w.heap[bw]? = some (.cells (wcells g) 43 (0, 0))
  sb : w.heap[b1]? = some (.cells (scells g) 52 (0, 0))
  bd : ∀ i, S i → i < w.heap.size
  st : ∀ i, S i → ¬ g.mut bw b1 i
  peers : RowS encI 1 w S g.pA [1]
  seatS : S g.sb
  seat : w.cell? ⟨g.sb, g.so, none⟩ = some (.pointer (some ⟨b1, 0, none⟩))
  dl : EntsS w S g.dA g.dl
  dn : g.dn = g.dl.length
  dc : g.dn ≤ g.dc
  led : MI w g.mL g.led
  voted : MapG Tryz.prog 150 encV (Value.int .i64) w g.mV g.voted
  known : MapG Tryz.prog 3 (Value.int .i64) encK w g.mK g.known
  tm : MI w g.mT g.tm
  apart : [g.mL, g.mV, g.mK, g.mT].Nodup
  kb : ∀ p ∈ g.known, RowS encB 1 w S p.2.1.A p.2.2 ∧ p.2.1.n = p.2.2.length ∧ p.2.2.length ≤ 140737488351232

section
variable {w w' : World} {S S' : Nat → Prop} {bw b1 : Nat} {g : WG}
theorem WAt.keep (h : WAt w S bw b1 g) (hsz : w.heap.size ≤ w'.heap.size) (hk : ∀ i, S i ∨ g.mut bw b1 i → i < w.heap.size → w'.heap[i]? = w.heap[i]?) : WAt w' S bw b1 g := by
  have hs : ∀ i, S i → w'.heap[i]? = w.heap[i]? := fun i hi => hk i (.inl hi) (h.bd i hi)
  have hm : ∀ i, g.mut bw b1 i → i < w.heap.size → w'.heap[i]? = w.heap[i]? := fun i hi hl => hk i (.inr hi) hl
  exact ⟨(hm bw (.inl rfl) (block_lt h.wb)).trans h.wb, (hm b1 (.inr (.inl rfl)) (block_lt h.sb)).trans h.sb, fun i hi => Nat.lt_of_lt_of_le (h.bd i hi) hsz, h.st, h.peers.keep hs, h.seatS, (World.cell?_of_block (hs g.sb h.seatS)).trans h.seat, h.dl.keep hs, h.dn, h.dc,
    h.led.same (hm _ (.inr (.inr (.inl rfl))) h.led.lt), h.voted.same (hm _ (.inr (.inr (.inr (.inl rfl)))) h.voted.lt), h.known.same (hm _ (.inr (.inr (.inr (.inr (.inl rfl))))) h.known.lt), h.tm.same (hm _ (.inr (.inr (.inr (.inr (.inr rfl))))) h.tm.lt), h.apart,
    fun p hp => ⟨(h.kb p hp).1.keep hs, (h.kb p hp).2⟩⟩
theorem WAt.below (h : WAt w S bw b1 g) (hb : Below w.heap.size w w') : WAt w' S bw b1 g := h.keep hb.size fun i _ hl => hb.block i hl
theorem WAt.drewN (h : WAt w S bw b1 g) (n : Nat) : WAt (w.drewN n) S bw b1 g := h.keep (Nat.le_refl _) fun _ _ _ => rfl
theorem WAt.chg (h : WAt w S bw b1 g) {F : Nat → Prop} (hc : Chg F w w') (hF : ∀ i, F i → ¬ S i ∧ ¬ g.mut bw b1 i) : WAt w' S bw b1 g :=
  h.keep hc.size fun i hi hl => hc.keep hl fun hf => by rcases hi with hi | hi; exact (hF i hf).1 hi; exact (hF i hf).2 hi
theorem WAt.mono (h : WAt w S bw b1 g) (hs : ∀ i, S i → S' i) (hb : ∀ i, S' i → i < w.heap.size) (hd : ∀ i, S' i → ¬ g.mut bw b1 i) : WAt w S' bw b1 g :=
  ⟨h.wb, h.sb, hb, hd, h.peers.mono hs, hs _ h.seatS, h.seat, h.dl.mono hs, h.dn, h.dc, h.led, h.voted, h.known, h.tm, h.apart, fun p hp => ⟨(h.kb p hp).1.mono hs, (h.kb p hp).2⟩⟩
theorem WAt.mutLt (h : WAt w S bw b1 g) (i : Nat) (hi : g.mut bw b1 i) : i < w.heap.size := by
  rcases hi with rfl | rfl | rfl | rfl | rfl | rfl
  · exact block_lt h.wb
  · exact block_lt h.sb
  · exact h.led.lt
  · exact h.voted.lt
  · exact h.known.lt
  · exact h.tm.lt
theorem WAt.ne (h : WAt w S bw b1 g) : b1 ≠ bw ∧ g.mL ≠ bw ∧ g.mL ≠ b1 ∧ g.mV ≠ bw ∧ g.mV ≠ b1 ∧ g.mK ≠ bw ∧ g.mK ≠ b1 ∧ g.mT ≠ bw ∧ g.mT ≠ b1 :=
  ⟨fun e => absurd (ne_typed h.sb (by rw [e]; exact h.wb)) (by decide), h.led.ne h.wb, h.led.ne h.sb, h.voted.ne h.wb, h.voted.ne h.sb, h.known.ne h.wb, h.known.ne h.sb, h.tm.ne h.wb, h.tm.ne h.sb⟩
/-- The seat has turned, nothing else. -/
theorem WAt.reseat (h : WAt w S bw b1 g) (hc : Chg (· = b1) w w') {bn : Nat} {t v cm most ro le : Int} {dA : Option Addr} {dn dc : Nat} {dl : List (LE × List Int)}
    (hb : w'.heap[b1]? = some (.cells (scells { g with bn := bn, t := t, v := v, cm := cm, most := most, ro := ro, le := le, dA := dA, dn := dn, dc := dc, dl := dl }) 52 (0, 0)))
    (hdl : EntsS w' S dA dl) (hdn : dn = dl.length) (hdc : dn ≤ dc) : WAt w' S bw b1 { g with bn := bn, t := t, v := v, cm := cm, most := most, ro := ro, le := le, dA := dA, dn := dn, dc := dc, dl := dl } := by
  have hs : ∀ i, S i → w'.heap[i]? = w.heap[i]? := fun i hi => hc.keep (h.bd i hi) fun e => h.st i hi (e ▸ .inr (.inl rfl))
  obtain ⟨n0, n1, n2, n3, n4, n5, n6, n7, n8⟩ := h.ne
  exact ⟨(hc.keep (block_lt h.wb) (fun e => n0 e.symm)).trans h.wb, hb, fun i hi => Nat.lt_of_lt_of_le (h.bd i hi) hc.size, h.st, h.peers.keep hs, h.seatS, (World.cell?_of_block (hs g.sb h.seatS)).trans h.seat, hdl, hdn, hdc,
    h.led.same (hc.keep h.led.lt n2), h.voted.same (hc.keep h.voted.lt n4), h.known.same (hc.keep h.known.lt n6), h.tm.same (hc.keep h.tm.lt n8), h.apart, fun p hp => ⟨(h.kb p hp).1.keep hs, (h.kb p hp).2⟩⟩
theorem WAt.reled (h : WAt w S bw b1 g) (hc : Chg (· = g.mL) w w') {l : List (Int × Int)} (hl : MI w' g.mL l) : WAt w' S bw b1 { g with led := l } := by
  have hs : ∀ i, S i → w'.heap[i]? = w.heap[i]? := fun i hi => hc.keep (h.bd i hi) fun e => h.st i hi (e ▸ .inr (.inr (.inl rfl)))
  obtain ⟨n0, n1, n2, n3, n4, n5, n6, n7, n8⟩ := h.ne
  have ha := h.apart
  simp only [List.nodup_cons, List.mem_cons, List.not_mem_nil, or_false, not_or] at ha
  exact ⟨(hc.keep (block_lt h.wb) (fun e => n1 e.symm)).trans h.wb, (hc.keep (block_lt h.sb) (fun e => n2 e.symm)).trans h.sb, fun i hi => Nat.lt_of_lt_of_le (h.bd i hi) hc.size, h.st, h.peers.keep hs, h.seatS, (World.cell?_of_block (hs g.sb h.seatS)).trans h.seat, h.dl.keep hs, h.dn, h.dc,
    hl, h.voted.same (hc.keep h.voted.lt (fun e => ha.1.1 e.symm)), h.known.same (hc.keep h.known.lt (fun e => ha.1.2.1 e.symm)), h.tm.same (hc.keep h.tm.lt (fun e => ha.1.2.2 e.symm)), h.apart, fun p hp => ⟨(h.kb p hp).1.keep hs, (h.kb p hp).2⟩⟩
theorem WAt.revoted (h : WAt w S bw b1 g) (hc : Chg (· = g.mV) w w') {l : List ((Int × Int) × Int)} (hl : MapG Tryz.prog 150 encV (Value.int .i64) w' g.mV l) : WAt w' S bw b1 { g with voted := l } := by
  have hs : ∀ i, S i → w'.heap[i]? = w.heap[i]? := fun i hi => hc.keep (h.bd i hi) fun e => h.st i hi (e ▸ .inr (.inr (.inr (.inl rfl))))
  obtain ⟨n0, n1, n2, n3, n4, n5, n6, n7, n8⟩ := h.ne
  have ha := h.apart
  simp only [List.nodup_cons, List.mem_cons, List.not_mem_nil, or_false, not_or] at ha
  exact ⟨(hc.keep (block_lt h.wb) (fun e => n3 e.symm)).trans h.wb, (hc.keep (block_lt h.sb) (fun e => n4 e.symm)).trans h.sb, fun i hi => Nat.lt_of_lt_of_le (h.bd i hi) hc.size, h.st, h.peers.keep hs, h.seatS, (World.cell?_of_block (hs g.sb h.seatS)).trans h.seat, h.dl.keep hs, h.dn, h.dc,
    h.led.same (hc.keep h.led.lt (fun e => ha.1.1 e)), hl, h.known.same (hc.keep h.known.lt (fun e => ha.2.1.1 e.symm)), h.tm.same (hc.keep h.tm.lt (fun e => ha.2.1.2 e.symm)), h.apart, fun p hp => ⟨(h.kb p hp).1.keep hs, (h.kb p hp).2⟩⟩
theorem WAt.reknown (h : WAt w S bw b1 g) (hc : Chg (· = g.mK) w w') {l : List (Int × (LE × List Int))} (hl : MapG Tryz.prog 3 (Value.int .i64) encK w' g.mK l)
    (hkb : ∀ p ∈ l, RowS encB 1 w S p.2.1.A p.2.2 ∧ p.2.1.n = p.2.2.length ∧ p.2.2.length ≤ 140737488351232) : WAt w' S bw b1 { g with known := l } := by
  have hs : ∀ i, S i → w'.heap[i]? = w.heap[i]? := fun i hi => hc.keep (h.bd i hi) fun e => h.st i hi (e ▸ .inr (.inr (.inr (.inr (.inl rfl)))))
  obtain ⟨n0, n1, n2, n3, n4, n5, n6, n7, n8⟩ := h.ne
  have ha := h.apart
  simp only [List.nodup_cons, List.mem_cons, List.not_mem_nil, or_false, not_or] at ha
  exact ⟨(hc.keep (block_lt h.wb) (fun e => n5 e.symm)).trans h.wb, (hc.keep (block_lt h.sb) (fun e => n6 e.symm)).trans h.sb, fun i hi => Nat.lt_of_lt_of_le (h.bd i hi) hc.size, h.st, h.peers.keep hs, h.seatS, (World.cell?_of_block (hs g.sb h.seatS)).trans h.seat, h.dl.keep hs, h.dn, h.dc,
    h.led.same (hc.keep h.led.lt (fun e => ha.1.2.1 e)), h.voted.same (hc.keep h.voted.lt (fun e => ha.2.1.1 e)), hl, h.tm.same (hc.keep h.tm.lt (fun e => ha.2.2.1 e.symm)), h.apart, fun p hp => ⟨(hkb p hp).1.keep hs, (hkb p hp).2⟩⟩
theorem WAt.retm (h : WAt w S bw b1 g) (hc : Chg (· = g.mT) w w') {l : List (Int × Int)} (hl : MI w' g.mT l) : WAt w' S bw b1 { g with tm := l } := by
  have hs : ∀ i, S i → w'.heap[i]? = w.heap[i]? := fun i hi => hc.keep (h.bd i hi) fun e => h.st i hi (e ▸ .inr (.inr (.inr (.inr (.inr rfl)))))
  obtain ⟨n0, n1, n2, n3, n4, n5, n6, n7, n8⟩ := h.ne
  have ha := h.apart
  simp only [List.nodup_cons, List.mem_cons, List.not_mem_nil, or_false, not_or] at ha
  exact ⟨(hc.keep (block_lt h.wb) (fun e => n7 e.symm)).trans h.wb, (hc.keep (block_lt h.sb) (fun e => n8 e.symm)).trans h.sb, fun i hi => Nat.lt_of_lt_of_le (h.bd i hi) hc.size, h.st, h.peers.keep hs, h.seatS, (World.cell?_of_block (hs g.sb h.seatS)).trans h.seat, h.dl.keep hs, h.dn, h.dc,
    h.led.same (hc.keep h.led.lt (fun e => ha.1.2.2 e)), h.voted.same (hc.keep h.voted.lt (fun e => ha.2.1.2 e)), h.known.same (hc.keep h.known.lt (fun e => ha.2.2.1 e)), hl, h.apart, fun p hp => ⟨(h.kb p hp).1.keep hs, (h.kb p hp).2⟩⟩
theorem WAt.rehigh (h : WAt w S bw b1 g) (hc : Chg (· = bw) w w') {x : Int} (hb : w'.heap[bw]? = some (.cells (wcells { g with high := x }) 43 (0, 0))) : WAt w' S bw b1 { g with high := x } := by
  have hs : ∀ i, S i → w'.heap[i]? = w.heap[i]? := fun i hi => hc.keep (h.bd i hi) fun e => h.st i hi (e ▸ .inl rfl)
  obtain ⟨n0, n1, n2, n3, n4, n5, n6, n7, n8⟩ := h.ne
  exact ⟨hb, (hc.keep (block_lt h.sb) n0).trans h.sb, fun i hi => Nat.lt_of_lt_of_le (h.bd i hi) hc.size, h.st, h.peers.keep hs, h.seatS, (World.cell?_of_block (hs g.sb h.seatS)).trans h.seat, h.dl.keep hs, h.dn, h.dc,
    h.led.same (hc.keep h.led.lt n1), h.voted.same (hc.keep h.voted.lt n3), h.known.same (hc.keep h.known.lt n5), h.tm.same (hc.keep h.tm.lt n7), h.apart, fun p hp => ⟨(h.kb p hp).1.keep hs, (h.kb p hp).2⟩⟩
end

section
variable {w : World} {bw b1 : Nat} {g : WG}
theorem wc0 (h : w.heap[bw]? = some (.cells (wcells g) 43 (0, 0))) : w.cell? ⟨bw, 0, none⟩ = some (.int .i64 0) := cell_block h 0 _ rfl
theorem wc1 (h : w.heap[bw]? = some (.cells (wcells g) 43 (0, 0))) : w.cell? ⟨bw, 1, none⟩ = some (.slice g.pA 1 g.pc) := cell_block h 1 _ rfl
theorem wc2 (h : w.heap[bw]? = some (.cells (wcells g) 43 (0, 0))) : w.cell? ⟨bw, 2, none⟩ = some (.int .i64 g.L) := cell_block h 2 _ rfl
theorem wc3 (h : w.heap[bw]? = some (.cells (wcells g) 43 (0, 0))) : w.cell? ⟨bw, 3, none⟩ = some (.int .i64 g.Mo) := cell_block h 3 _ rfl
theorem wc4 (h : w.heap[bw]? = some (.cells (wcells g) 43 (0, 0))) : w.cell? ⟨bw, 4, none⟩ = some (.int .i64 g.Bt) := cell_block h 4 _ rfl
theorem wc5 (h : w.heap[bw]? = some (.cells (wcells g) 43 (0, 0))) : w.cell? ⟨bw, 5, none⟩ = some (.int .i64 5) := cell_block h 5 _ rfl
theorem wc6 (h : w.heap[bw]? = some (.cells (wcells g) 43 (0, 0))) : w.cell? ⟨bw, 6, none⟩ = some (.slice (some ⟨g.sb, g.so, none⟩) 1 g.sc) := cell_block h 6 _ rfl
theorem wc7 (h : w.heap[bw]? = some (.cells (wcells g) 43 (0, 0))) : w.cell? ⟨bw, 7, none⟩ = some (.slice none 0 0) := cell_block h 7 _ rfl
theorem wc8 (h : w.heap[bw]? = some (.cells (wcells g) 43 (0, 0))) : w.cell? ⟨bw, 8, none⟩ = some (.map (some g.mL)) := cell_block h 8 _ rfl
theorem wc9 (h : w.heap[bw]? = some (.cells (wcells g) 43 (0, 0))) : w.cell? ⟨bw, 9, none⟩ = some (.map (some g.mV)) := cell_block h 9 _ rfl
theorem wc10 (h : w.heap[bw]? = some (.cells (wcells g) 43 (0, 0))) : w.cell? ⟨bw, 10, none⟩ = some (.map (some g.mK)) := cell_block h 10 _ rfl
theorem wc11 (h : w.heap[bw]? = some (.cells (wcells g) 43 (0, 0))) : w.cell? ⟨bw, 11, none⟩ = some (.map (some g.mT)) := cell_block h 11 _ rfl
theorem wc12 (h : w.heap[bw]? = some (.cells (wcells g) 43 (0, 0))) : w.cell? ⟨bw, 12, none⟩ = some (.int .i64 g.high) := cell_block h 12 _ rfl
theorem wc13 (h : w.heap[bw]? = some (.cells (wcells g) 43 (0, 0))) : w.cell? ⟨bw, 13, none⟩ = some (.bool false) := cell_block h 13 _ rfl
theorem sc0 (h : w.heap[b1]? = some (.cells (scells g) 52 (0, 0))) : w.cell? ⟨b1, 0, none⟩ = some (.int .i64 1) := cell_block h 0 _ rfl
theorem sc1 (h : w.heap[b1]? = some (.cells (scells g) 52 (0, 0))) : w.cell? ⟨b1, 1, none⟩ = some (.pointer (some ⟨g.bn, 0, none⟩)) := cell_block h 1 _ rfl
theorem sc2 (h : w.heap[b1]? = some (.cells (scells g) 52 (0, 0))) : w.cell? ⟨b1, 2, none⟩ = some (.pointer none) := cell_block h 2 _ rfl
theorem sc3 (h : w.heap[b1]? = some (.cells (scells g) 52 (0, 0))) : w.cell? ⟨b1, 3, none⟩ = some (.int .i64 g.t) := cell_block h 3 _ rfl
theorem sc4 (h : w.heap[b1]? = some (.cells (scells g) 52 (0, 0))) : w.cell? ⟨b1, 4, none⟩ = some (.int .i64 g.v) := cell_block h 4 _ rfl
theorem sc5 (h : w.heap[b1]? = some (.cells (scells g) 52 (0, 0))) : w.cell? ⟨b1, 5, none⟩ = some (.int .i64 0) := cell_block h 5 _ rfl
theorem sc6 (h : w.heap[b1]? = some (.cells (scells g) 52 (0, 0))) : w.cell? ⟨b1, 6, none⟩ = some (.int .i64 0) := cell_block h 6 _ rfl
theorem sc7 (h : w.heap[b1]? = some (.cells (scells g) 52 (0, 0))) : w.cell? ⟨b1, 7, none⟩ = some (.slice g.dA g.dn g.dc) := cell_block h 7 _ rfl
theorem sc8 (h : w.heap[b1]? = some (.cells (scells g) 52 (0, 0))) : w.cell? ⟨b1, 8, none⟩ = some (.int .i64 g.cm) := cell_block h 8 _ rfl
theorem sc9 (h : w.heap[b1]? = some (.cells (scells g) 52 (0, 0))) : w.cell? ⟨b1, 9, none⟩ = some (.int .i64 g.most) := cell_block h 9 _ rfl
theorem sc10 (h : w.heap[b1]? = some (.cells (scells g) 52 (0, 0))) : w.cell? ⟨b1, 10, none⟩ = some (.int .i64 g.ro) := cell_block h 10 _ rfl
theorem sc11 (h : w.heap[b1]? = some (.cells (scells g) 52 (0, 0))) : w.cell? ⟨b1, 11, none⟩ = some (.int .i64 g.le) := cell_block h 11 _ rfl
end
end Go.Proofs.YtocogcgnahbpkaaGreat
