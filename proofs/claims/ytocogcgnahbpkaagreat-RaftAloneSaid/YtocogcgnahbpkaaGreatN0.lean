/-
  A raft node in memory.
-/
import Derived.Test.YtocogcgnahbpkaaGreatMem3
namespace Go.Proofs.YtocogcgnahbpkaaGreat
open Go.RowKit

/-- Entries of one's own, in blocks of F. -/
structure EntsF (w : World) (F : Nat → Prop) (v : Value) (qs : List (LE × List Int)) : Prop where
  own : Own encLE 3 67 w 0 v (qs.map (·.1))
  inF : ∀ k, v.ownBlock = some k → F k
  each : ∀ q ∈ qs, Own encB 1 5 w 0 (.slice q.1.A q.1.n q.1.c) q.2 ∧ (∀ k, (Value.slice q.1.A q.1.n q.1.c).ownBlock = some k → F k) ∧ q.2.length ≤ 140737488351232

section
variable {w w' : World} {F G : Nat → Prop} {v : Value} {qs : List (LE × List Int)}
theorem EntsF.nil : EntsF w F (.slice none 0 0) [] := ⟨Own.nil, by simp [Value.ownBlock], by simp⟩
theorem EntsF.mono (h : EntsF w F v qs) (hs : ∀ i, F i → i < w.heap.size → G i) : EntsF w G v qs :=
  ⟨h.own, fun k hk => hs k (h.inF k hk) (h.own.lt k hk).2, fun q hq => ⟨(h.each q hq).1, fun k hk => hs k ((h.each q hq).2.1 k hk) ((h.each q hq).1.lt k hk).2, (h.each q hq).2.2⟩⟩
theorem EntsF.keepT (h : EntsF w F v qs) (hk : ∀ i, F i → (∃ cur t, w.heap[i]? = some (.cells cur t (0, 0)) ∧ (t = 67 ∨ t = 5)) → w'.heap[i]? = w.heap[i]?) : EntsF w' F v qs :=
  ⟨h.own.same fun k e => hk k (h.inF k e) (by obtain ⟨cur, hc⟩ := h.own.typed k e; exact ⟨cur, _, hc, .inl rfl⟩), h.inF,
    fun q hq => ⟨(h.each q hq).1.same fun k e => hk k ((h.each q hq).2.1 k e) (by obtain ⟨cur, hc⟩ := (h.each q hq).1.typed k e; exact ⟨cur, _, hc, .inr rfl⟩), (h.each q hq).2⟩⟩
theorem EntsF.keep (h : EntsF w F v qs) (hk : ∀ i, F i → i < w.heap.size → w'.heap[i]? = w.heap[i]?) : EntsF w' F v qs :=
  h.keepT fun i hi ⟨_, _, hc, _⟩ => hk i hi (block_lt hc)
theorem EntsF.chg (h : EntsF w F v qs) (hc : Chg G w w') (hd : ∀ i, F i → ¬ G i) : EntsF w' F v qs := h.keep fun i hi hl => hc.keep hl (hd i hi)
theorem EntsF.alloc (h : EntsF w F v qs) (o : Obj) : EntsF (w.alloc o) F v qs := h.keep fun _ _ hl => Below.heap_alloc _ _ _ hl
theorem EntsF.below (h : EntsF w F v qs) (hb : Below w.heap.size w w') : EntsF w' F v qs := h.keep fun i _ hl => hb.block i hl
theorem OEnts.entsF {base : Nat} (h : OEnts w base v qs) (hF : ∀ i, base ≤ i → i < w.heap.size → F i) : EntsF w F v qs :=
  ⟨h.own.weaken (Nat.zero_le _), fun k hk => hF k (h.own.lt k hk).1 (h.own.lt k hk).2, fun q hq => ⟨(h.each q hq).1.weaken (Nat.zero_le _), fun k hk => hF k ((h.each q hq).1.lt k hk).1 ((h.each q hq).1.lt k hk).2, (h.each q hq).2.2⟩⟩
theorem EntsF.oents (h : EntsF w F v qs) : OEnts w 0 v qs :=
  ⟨h.own, fun q hq => ⟨(h.each q hq).1, by
    cases hk : (Value.slice q.1.A q.1.n q.1.c).ownBlock with
    | none => exact .inl rfl
    | some k =>
      right; intro e
      obtain ⟨c1, h1⟩ := (h.each q hq).1.typed k hk
      obtain ⟨c2, h2⟩ := h.own.typed k e.symm
      rw [h1] at h2; injection h2 with h2; injection h2 with _ h2; exact absurd h2 (by decide), (h.each q hq).2.2⟩⟩
theorem EntsF.ents {A : Option Addr} {n c : Nat} (h : EntsF w F (.slice A n c) qs) : Ents w w.heap.size A qs ∧ n = qs.length ∧ n ≤ c := by
  have hc := Own.cap h.own
  simp only [List.length_map] at hc
  exact ⟨h.oents.ents, hc⟩
theorem EntsF.lt (h : EntsF w F v qs) (k : Nat) (hk : v.ownBlock = some k) : k < w.heap.size := (h.own.lt k hk).2
end

/-! ### messages -/
structure MR where
  kind : Int
  from_ : Int
  to_ : Int
  term : Int
  idx : Int
  lt : Int
  commit : Int
  eA : Option Addr
  en : Nat
  ec : Nat
  rej : Bool
  hint : Int
def encM (m : MR) : List Value := [.int .i64 m.kind, .int .i64 m.from_, .int .i64 m.to_, .int .i64 m.term, .int .i64 m.idx, .int .i64 m.lt, .int .i64 m.commit, .slice m.eA m.en m.ec, .bool m.rej, .int .i64 m.hint]
theorem len_M (x : MR) : (encM x).length = 10 := rfl
theorem one_M (x : MR) : ∀ u ∈ encM x, u.oneCell' = true := by
  intro u hu
  simp only [encM, List.mem_cons, List.not_mem_nil, or_false] at hu
  rcases hu with rfl | rfl | rfl | rfl | rfl | rfl | rfl | rfl | rfl | rfl <;> rfl
theorem info3 : ∃ i z, Tryz.prog.info? 3 = some i ∧ i.zero = some z ∧ i.size = 1 ∧ i.bytes = 8 ∧ z.cells.size = 1 := by
  have h : (Tryz.prog.info? 3).map (fun i => (i.zero, i.size, i.bytes)) = some (some (.int .i64 0), 1, 8) := by kernel_rfl
  obtain ⟨i, hi, h0, h1, h2⟩ := info_parts h
  exact ⟨i, _, hi, h0, h1, h2, rfl⟩
theorem info59 : ∃ i z, Tryz.prog.info? 59 = some i ∧ i.zero = some z ∧ i.size = 10 ∧ i.bytes = 96 ∧ z.cells.size = 10 := by
  have h : (Tryz.prog.info? 59).map (fun i => (i.zero, i.size, i.bytes)) = some (some (.agg #[.int .i64 0, .int .i64 0, .int .i64 0, .int .i64 0, .int .i64 0, .int .i64 0, .int .i64 0, .slice none 0 0, .bool false, .int .i64 0]), 10, 96) := by kernel_rfl
  obtain ⟨i, hi, h0, h1, h2⟩ := info_parts h
  exact ⟨i, _, hi, h0, h1, h2, rfl⟩

structure PM where
  kind : Int
  from_ : Int
  to_ : Int
  term : Int
  idx : Int
  lt : Int
  commit : Int
  es : List E
  rej : Bool
  hint : Int
def MR.pm (m : MR) (qs : List (LE × List Int)) : PM := ⟨m.kind, m.from_, m.to_, m.term, m.idx, m.lt, m.commit, qs.map con, m.rej, m.hint⟩

/-- Messages of one's own. -/
structure MsgsF (w : World) (F : Nat → Prop) (v : Value) (ms : List (MR × List (LE × List Int))) : Prop where
  own : Own encM 10 59 w 0 v (ms.map (·.1))
  inF : ∀ k, v.ownBlock = some k → F k
  each : ∀ m ∈ ms, EntsF w F (.slice m.1.eA m.1.en m.1.ec) m.2

section
variable {w w' : World} {F G : Nat → Prop} {v : Value} {ms : List (MR × List (LE × List Int))}
theorem MsgsF.nil : MsgsF w F (.slice none 0 0) [] := ⟨Own.nil, by simp [Value.ownBlock], by simp⟩
theorem MsgsF.mono (h : MsgsF w F v ms) (hs : ∀ i, F i → i < w.heap.size → G i) : MsgsF w G v ms :=
  ⟨h.own, fun k hk => hs k (h.inF k hk) (h.own.lt k hk).2, fun m hm => (h.each m hm).mono hs⟩
theorem MsgsF.keepT (h : MsgsF w F v ms) (hk : ∀ i, F i → (∃ cur t, w.heap[i]? = some (.cells cur t (0, 0)) ∧ (t = 67 ∨ t = 5 ∨ t = 59)) → w'.heap[i]? = w.heap[i]?) : MsgsF w' F v ms :=
  ⟨h.own.same fun k e => hk k (h.inF k e) (by obtain ⟨cur, hc⟩ := h.own.typed k e; exact ⟨cur, _, hc, .inr (.inr rfl)⟩), h.inF,
    fun m hm => (h.each m hm).keepT fun i hi ⟨cur, t, hc, ht⟩ => hk i hi ⟨cur, t, hc, by rcases ht with ht | ht <;> simp [ht]⟩⟩
theorem MsgsF.keep (h : MsgsF w F v ms) (hk : ∀ i, F i → i < w.heap.size → w'.heap[i]? = w.heap[i]?) : MsgsF w' F v ms :=
  h.keepT fun i hi ⟨_, _, hc, _⟩ => hk i hi (block_lt hc)
end

/-! ### maps of a node -/
theorem under3 : Tryz.prog.underlying 3 = some (.int .i64) := Tryz.underlying3
def okI (x : Int) : Prop := -9223372036854775808 ≤ x ∧ x ≤ 9223372036854775807
theorem KI : KeyEnc Tryz.prog 3 (Value.int .i64) okI where
  keyed := Maps.int_keyed Tryz.underlying3
  reads x hx := ⟨_, Maps.keyOf_int_mk Tryz.underlying3 (by unfold okI at hx; simp [Lit.wf, IntKind.min, IntKind.max, IntKind.bits, IntKind.signed]; omega)⟩
  inj x y h := by injection h
abbrev MI (w : World) (b : Nat) (l : List (Int × Int)) : Prop := MapG Tryz.prog 3 (Value.int .i64) (Value.int .i64) w b l
abbrev MB (w : World) (b : Nat) (l : List (Int × Unit)) : Prop := MapG Tryz.prog 3 (Value.int .i64) (fun _ : Unit => Value.bool true) w b l

def MapF {β : Type} (venc : β → Value) (w : World) (F : Nat → Prop) (r : Option Nat) (l : List (Int × β)) : Prop :=
  match r with
  | none => l = []
  | some m => F m ∧ MapG Tryz.prog 3 (Value.int .i64) venc w m l
section
variable {β : Type} {venc : β → Value} {w w' : World} {F G : Nat → Prop} {r : Option Nat} {l : List (Int × β)}
theorem MapF.keepT (h : MapF venc w F r l) (hk : ∀ i, F i → (∃ es c, w.heap[i]? = some (.map es c)) → w'.heap[i]? = w.heap[i]?) : MapF venc w' F r l := by
  cases r with
  | none => exact h
  | some m => exact ⟨h.1, h.2.same (hk m h.1 h.2.obj)⟩
theorem MapF.keep (h : MapF venc w F r l) (hk : ∀ i, F i → i < w.heap.size → w'.heap[i]? = w.heap[i]?) : MapF venc w' F r l := h.keepT fun i hi ⟨_, _, hc⟩ => hk i hi (block_lt hc)
theorem MapF.mono (h : MapF venc w F r l) (hs : ∀ i, F i → i < w.heap.size → G i) : MapF venc w G r l := by
  cases r with
  | none => exact h
  | some m => exact ⟨hs m h.1 h.2.lt, h.2⟩
end

/-! ### the node -/
structure NS where
  id : Int
  least : Int
  most : Int
  beatc : Int
  batch : Int
  term : Int
  vote : Int
  snap : Int
  snapTerm : Int
  commit : Int
  role : Int
  leader : Int
  elapsed : Int
  timeout : Int
  beat : Int
  heir : Int
  draw : Int
  from_ : Int
  first : Int
  last : Int
structure NC where
  pA : Option Addr
  pn : Nat
  pc : Nat
  peers : List Int
  lA : Option Addr
  ln : Nat
  lc : Nat
  log : List (LE × List Int)
  mtR : Option Nat
  mt : List (Int × Int)
  nxR : Option Nat
  nx : List (Int × Int)
  hdR : Option Nat
  hd : List (Int × Unit)
  grR : Option Nat
  gr : List (Int × Unit)
  rfR : Option Nat
  rf : List (Int × Unit)
  mA : Option Addr
  mn : Nat
  mc : Nat
  msgs : List (MR × List (LE × List Int))
  snR : Option Nat
  sn : List (Int × Unit)
def ncells (s : NS) (c : NC) : Array Value := #[.int .i64 s.id, .slice c.pA c.pn c.pc, .int .i64 s.least, .int .i64 s.most, .int .i64 s.beatc, .int .i64 s.batch, .int .i64 s.term, .int .i64 s.vote, .slice c.lA c.ln c.lc,
  .int .i64 s.snap, .int .i64 s.snapTerm, .int .i64 s.commit, .int .i64 s.role, .int .i64 s.leader, .int .i64 s.elapsed, .int .i64 s.timeout, .map c.mtR, .map c.nxR, .map c.hdR, .int .i64 s.beat, .int .i64 s.heir, .map c.grR, .map c.rfR,
  .int .i64 s.draw, .slice c.mA c.mn c.mc, .map c.snR, .int .i64 s.from_, .int .i64 s.first, .int .i64 s.last]

structure NCAt (w : World) (F G : Nat → Prop) (c : NC) : Prop where
  bdF : ∀ i, F i → i < w.heap.size
  bdG : ∀ i, G i → i < w.heap.size
  dis : ∀ i, F i → ¬ G i
  peers : Own encI 1 3 w 0 (.slice c.pA c.pn c.pc) c.peers
  peersF : ∀ k, (Value.slice c.pA c.pn c.pc).ownBlock = some k → F k
  log : EntsF w F (.slice c.lA c.ln c.lc) c.log
  mt : MapF (Value.int .i64) w F c.mtR c.mt
  nx : MapF (Value.int .i64) w F c.nxR c.nx
  hd : MapF (fun _ => Value.bool true) w F c.hdR c.hd
  gr : MapF (fun _ => Value.bool true) w F c.grR c.gr
  rf : MapF (fun _ => Value.bool true) w F c.rfR c.rf
  sn : MapF (fun _ => Value.bool true) w F c.snR c.sn
  msgs : MsgsF w G (.slice c.mA c.mn c.mc) c.msgs
  apart : ([c.mtR, c.nxR, c.hdR, c.grR, c.rfR, c.snR].filterMap fun x => x).Nodup

structure NdAt (w : World) (F G : Nat → Prop) (b : Nat) (s : NS) (c : NC) : Prop where
  blk : w.heap[b]? = some (.cells (ncells s c) 126 (0, 0))
  hb : F b
  rest : NCAt w F G c

section
variable {w w' : World} {F G : Nat → Prop} {b : Nat} {s s' : NS} {c : NC}
/-- All blocks that it reaches but the node's own are as they were. -/
theorem NCAt.keepB (h : NCAt w F G c) {arr : Array Value} (hb : w.heap[b]? = some (.cells arr 126 (0, 0))) (hsz : w.heap.size ≤ w'.heap.size) (hk : ∀ i, F i ∨ G i → i < w.heap.size → i ≠ b → w'.heap[i]? = w.heap[i]?) : NCAt w' F G c := by
  have hc : ∀ i cur t, w.heap[i]? = some (.cells cur t (0, 0)) → t ≠ 126 → i ≠ b := by
    rintro i cur t h1 h2 rfl
    rw [hb] at h1; injection h1 with h1; injection h1 with _ h1; exact h2 h1.symm
  have hm : ∀ i es c, w.heap[i]? = some (.map es c) → i ≠ b := by
    rintro i es c h1 rfl
    rw [hb] at h1; cases h1
  have M : ∀ {β : Type} {venc : β → Value} {r l}, MapF venc w F r l → MapF venc w' F r l := fun h => h.keepT fun i hi ⟨es, c, h1⟩ => hk i (.inl hi) (block_lt h1) (hm i es c h1)
  refine ⟨fun i hi => Nat.lt_of_lt_of_le (h.bdF i hi) hsz, fun i hi => Nat.lt_of_lt_of_le (h.bdG i hi) hsz, h.dis, h.peers.same fun k e => ?_, h.peersF, h.log.keepT fun i hi ⟨cur, t, h1, h2⟩ => hk i (.inl hi) (block_lt h1) (hc i cur t h1 (by rcases h2 with rfl | rfl <;> decide)),
    M h.mt, M h.nx, M h.hd, M h.gr, M h.rf, M h.sn, h.msgs.keepT fun i hi ⟨cur, t, h1, h2⟩ => hk i (.inr hi) (block_lt h1) (hc i cur t h1 (by rcases h2 with rfl | rfl | rfl <;> decide)), h.apart⟩
  obtain ⟨cur, h1⟩ := h.peers.typed k e
  exact hk k (.inl (h.peersF k e)) (block_lt h1) (hc k cur 3 h1 (by decide))
theorem NCAt.keep (h : NCAt w F G c) (hsz : w.heap.size ≤ w'.heap.size) (hk : ∀ i, F i ∨ G i → i < w.heap.size → w'.heap[i]? = w.heap[i]?) : NCAt w' F G c := by
  have M : ∀ {β : Type} {venc : β → Value} {r l}, MapF venc w F r l → MapF venc w' F r l := fun h => h.keepT fun i hi ⟨es, c, h1⟩ => hk i (.inl hi) (block_lt h1)
  refine ⟨fun i hi => Nat.lt_of_lt_of_le (h.bdF i hi) hsz, fun i hi => Nat.lt_of_lt_of_le (h.bdG i hi) hsz, h.dis, h.peers.same fun k e => ?_, h.peersF, h.log.keep fun i hi hl => hk i (.inl hi) hl, M h.mt, M h.nx, M h.hd, M h.gr, M h.rf, M h.sn, h.msgs.keep fun i hi hl => hk i (.inr hi) hl, h.apart⟩
  exact hk k (.inl (h.peersF k e)) (h.peers.lt k e).2
theorem NdAt.keep (h : NdAt w F G b s c) (hsz : w.heap.size ≤ w'.heap.size) (hk : ∀ i, F i ∨ G i → i < w.heap.size → w'.heap[i]? = w.heap[i]?) : NdAt w' F G b s c :=
  ⟨(hk b (.inl h.hb) (block_lt h.blk)).trans h.blk, h.hb, h.rest.keep hsz hk⟩
theorem NdAt.below (h : NdAt w F G b s c) (hb : Below w.heap.size w w') : NdAt w' F G b s c := h.keep hb.size fun i _ hl => hb.block i hl
/-- Numbers of the node have turned, nothing else. -/
theorem NdAt.scal (h : NdAt w F G b s c) (hc : Chg (· = b) w w') (hb : w'.heap[b]? = some (.cells (ncells s' c) 126 (0, 0))) : NdAt w' F G b s' c :=
  ⟨hb, h.hb, h.rest.keepB h.blk hc.size fun _ _ hl hne => hc.keep hl hne⟩
theorem NdAt.lt (h : NdAt w F G b s c) : b < w.heap.size := block_lt h.blk
end
section
variable {w : World} {b : Nat} {s : NS} {c : NC} (h : w.heap[b]? = some (.cells (ncells s c) 126 (0, 0)))
 include h
theorem nc0 : w.cell? ⟨b, 0, none⟩ = some (.int .i64 s.id) := cell_block h 0 _ rfl
theorem nc1 : w.cell? ⟨b, 1, none⟩ = some (.slice c.pA c.pn c.pc) := cell_block h 1 _ rfl
theorem nc2 : w.cell? ⟨b, 2, none⟩ = some (.int .i64 s.least) := cell_block h 2 _ rfl
theorem nc3 : w.cell? ⟨b, 3, none⟩ = some (.int .i64 s.most) := cell_block h 3 _ rfl
theorem nc4 : w.cell? ⟨b, 4, none⟩ = some (.int .i64 s.beatc) := cell_block h 4 _ rfl
theorem nc5 : w.cell? ⟨b, 5, none⟩ = some (.int .i64 s.batch) := cell_block h 5 _ rfl
theorem nc6 : w.cell? ⟨b, 6, none⟩ = some (.int .i64 s.term) := cell_block h 6 _ rfl
theorem nc7 : w.cell? ⟨b, 7, none⟩ = some (.int .i64 s.vote) := cell_block h 7 _ rfl
theorem nc8 : w.cell? ⟨b, 8, none⟩ = some (.slice c.lA c.ln c.lc) := cell_block h 8 _ rfl
theorem nc9 : w.cell? ⟨b, 9, none⟩ = some (.int .i64 s.snap) := cell_block h 9 _ rfl
theorem nc10 : w.cell? ⟨b, 10, none⟩ = some (.int .i64 s.snapTerm) := cell_block h 10 _ rfl
theorem nc11 : w.cell? ⟨b, 11, none⟩ = some (.int .i64 s.commit) := cell_block h 11 _ rfl
theorem nc12 : w.cell? ⟨b, 12, none⟩ = some (.int .i64 s.role) := cell_block h 12 _ rfl
theorem nc13 : w.cell? ⟨b, 13, none⟩ = some (.int .i64 s.leader) := cell_block h 13 _ rfl
theorem nc14 : w.cell? ⟨b, 14, none⟩ = some (.int .i64 s.elapsed) := cell_block h 14 _ rfl
theorem nc15 : w.cell? ⟨b, 15, none⟩ = some (.int .i64 s.timeout) := cell_block h 15 _ rfl
theorem nc16 : w.cell? ⟨b, 16, none⟩ = some (.map c.mtR) := cell_block h 16 _ rfl
theorem nc17 : w.cell? ⟨b, 17, none⟩ = some (.map c.nxR) := cell_block h 17 _ rfl
theorem nc18 : w.cell? ⟨b, 18, none⟩ = some (.map c.hdR) := cell_block h 18 _ rfl
theorem nc19 : w.cell? ⟨b, 19, none⟩ = some (.int .i64 s.beat) := cell_block h 19 _ rfl
theorem nc20 : w.cell? ⟨b, 20, none⟩ = some (.int .i64 s.heir) := cell_block h 20 _ rfl
theorem nc21 : w.cell? ⟨b, 21, none⟩ = some (.map c.grR) := cell_block h 21 _ rfl
theorem nc22 : w.cell? ⟨b, 22, none⟩ = some (.map c.rfR) := cell_block h 22 _ rfl
theorem nc23 : w.cell? ⟨b, 23, none⟩ = some (.int .i64 s.draw) := cell_block h 23 _ rfl
theorem nc24 : w.cell? ⟨b, 24, none⟩ = some (.slice c.mA c.mn c.mc) := cell_block h 24 _ rfl
theorem nc25 : w.cell? ⟨b, 25, none⟩ = some (.map c.snR) := cell_block h 25 _ rfl
theorem nc26 : w.cell? ⟨b, 26, none⟩ = some (.int .i64 s.from_) := cell_block h 26 _ rfl
theorem nc27 : w.cell? ⟨b, 27, none⟩ = some (.int .i64 s.first) := cell_block h 27 _ rfl
theorem nc28 : w.cell? ⟨b, 28, none⟩ = some (.int .i64 s.last) := cell_block h 28 _ rfl
end
end Go.Proofs.YtocogcgnahbpkaaGreat
