/-
  A part of the proof of what E53 says at its head.
-/
import Derived.Test.YtocogcgnahbpkaaGreatE9
namespace Go.SL
open Go.RowKit
section
variable {P : Program} {n f : Nat} {e : Env} {L L' S S' : List HP} {o : Oper} {v u : Value} {x y : Operand} {t t' : Nat} {a b : Int}
theorem Q.rem (ho : o.op = .binOp .rem t x y t') (hx : ev e x = some (.int .i64 a)) (hy : ev e y = some (.int .i64 b)) (h0 : b ≠ 0) : QOp P n e S o (.int .i64 (a.tmod b)) :=
  Q.bin ho hx hy eqg_int fun w => by simp [binOp, Op.intDiv, h0]
theorem FnQ.ex {α : Sort _} {p : α → HP} {as : Array Value} (he : Enters P f) (h : ∀ x, FnQ P f as (p x :: L) v) : FnQ P f as ((fun r => ∃ x, p x r) :: L) v := ⟨he, fun w hs => let ⟨x, h5⟩ := Sat.ex hs; (h x).2 w h5⟩
variable {k : List Item} {ds : List Deferred} {R : Fin} {ops : Array Oper} {rest : List Oper} {C : Env → List HP → Prop} {qs : List Nat} {T : List HP} {pl : Pl} {d j i : Nat}
theorem RS.hit {w : Value} (i : Nat) (h : look e i = some v) (hv : v = w) (hn : RS P n ops rest C ((i, w) :: e) L) : RS P n ops rest C e L := fun F a w0 Q h1 h2 h3 => hn F a w0 Q (h1.hit (hv ▸ h)) h2 h3
theorem RG.hit {w : Value} (i : Nat) (h : look e i = some v) (hv : v = w) (hn : RG P n qs T ops pl C ((i, w) :: e) L) : RG P n qs T ops pl C e L := fun listed F a w0 Q q1 q2 q3 q4 h1 h2 h3 => hn listed F a w0 Q q1 q2 q3 q4 (h1.hit (hv ▸ h)) h2 h3
theorem W.hit {w : Value} (i : Nat) (h : look e i = some v) (hv : v = w) (hn : W P f n R k ((i, w) :: e) ds L) : W P f n R k e ds L := fun F b0 cs t w0 h1 h2 h3 h4 => hn F b0 cs t w0 h1 h2 (h3.hit (hv ▸ h)) h4
end
section
variable {P : Program} {n f : Nat} {e : Env} {L L' M pre : List HP} {o : Oper} {v : Value} {ops : Array Oper} {rest : List Oper} {C : Env → List HP → Prop} {qs : List Nat} {T : List HP} {pl : Pl} {g : Operand} {args : Array Operand} {ts : Array Nat} {vs : List Value} {R : Fin} {d j : Nat} {A B : Array Value}
theorem O.callC (h : Fn P f (A ++ vs.toArray ++ B) pre R) (ho : o.op = .call ⟨.value g, args, ts⟩) (hg : ev e g = some (.func (.func f) A B)) (hv : evs e args.toList = some vs) (hL : Picks pre L L') : OpS P n e L o fun v M => ∃ L2, R v L2 ∧ M = L2 ++ L' := fun F w a next Q h1 h2 h3 => by
  unfold Oper.wp
  rw [call_run ho hg hv h1 h.1]
  have h4 : Sat w (pre ++ [Stars (L' ++ [F])]) := (h2.entF hL.ent).ent (by rw [List.append_assoc]; exact (Ent.refl pre).app (by have := Ent.unstar (l := L' ++ [F]) (m := []); rwa [List.append_nil] at this))
  have h5 := h.2 (Stars (L' ++ [F])) w h4
  simp only [Oper.upon]
  refine h5.mono ?_
  rintro _ w' ⟨v, L2, rfl, hr, hs⟩
  refine h3 v w' (L2 ++ L') ⟨L2, hr, rfl⟩ (hs.ent ?_)
  rw [List.append_assoc]
  exact (Ent.refl L2).app (by have := Ent.star (l := L' ++ [F]) (m := []); rwa [List.append_nil] at this)
theorem Q.callC (h : FnQ P f (A ++ vs.toArray ++ B) pre v) (ho : o.op = .call ⟨.value g, args, ts⟩) (hg : ev e g = some (.func (.func f) A B)) (hv : evs e args.toList = some vs) (hL : Ent L pre) : QOp P n e L o v := fun w a h1 h2 => by
  rw [call_run ho hg hv h1 h.1]
  exact ⟨rfl, h.2 w (h2.ent hL)⟩
variable [Tab P] {k : TypeId} {α β : Type} [DecidableEq α] {kenc : α → Value} {venc : β → Value} {ok : α → Prop} {b t ev' : Nat} {l : List (α × β)} {r : Row} {x y u : Operand} {i : α} {w : β}
 omit [DecidableEq α] [Tab P] in
theorem RS.mkMap (hn : ∀ z, RS P n ops rest C ((d, .map (some z)) :: e) (Mp P k kenc venc z ([] : List (α × β)) :: L)) (ho : o.op = .makeMap t none := by exact rfl) (hg : o.guard = none := by exact rfl) (hdd : o.dst = some d := by exact rfl) (hf : Nat.blt d n = true := by exact rfl) : RS P n ops (o :: rest) C e L :=
  .any hg hdd hf (N.makeMap (k := k) (kenc := kenc) (venc := venc) ho).op fun v M ⟨z, h1, h2⟩ => by rw [h1, h2]; exact hn z
 omit [DecidableEq α] [Tab P] in
theorem RG.mkMap (hn : ∀ z, RG P n qs T ops pl C ((d, .map (some z)) :: e) (Mp P k kenc venc z ([] : List (α × β)) :: L)) (hj : ops[j]? = some o := by exact rfl) (ho : o.op = .makeMap t none := by exact rfl) (hg : wn ops e o = some true := by exact rfl) (hdd : o.dst = some d := by exact rfl) (hf : Nat.blt d n = true := by exact rfl) : RG P n qs T ops (.a j pl) C e L :=
  .actN hj hg hdd hf (N.makeMap (k := k) (kenc := kenc) (venc := venc) ho) fun v M ⟨z, h1, h2⟩ => by rw [h1, h2]; exact hn z
theorem RS.putMap (K : KeyEnc P k kenc ok) (i : α) (w : β) (hi : ok i) (hn : RS P n ops rest C e (Mp P k kenc venc b (kput l i w) :: L')) (ho : o.op = .mapUpdate t x y u := by exact rfl) (ht : ty P t = some r := by exact rfl) (hd : r.d = .map k ev' := by exact rfl) (hx : ev e x = some (.map (some b)) := by exact rfl) (hy : ev e y = some (kenc i) := by exact rfl) (hu : ev e u = some (venc w) := by exact rfl)
    (hp : Pick (Mp P k kenc venc b l) L L' := by exact pick) (hg : o.guard = none := by exact rfl) (hdd : o.dst = none := by exact rfl) : RS P n ops (o :: rest) C e L :=
  .det0 hg hdd (O.mapUpdate K ho ht hd hx hy hu hi hp) hn
theorem RG.putMap (K : KeyEnc P k kenc ok) (i : α) (w : β) (hi : ok i) (hn : RG P n qs T ops pl C e (Mp P k kenc venc b (kput l i w) :: L')) (hj : ops[j]? = some o := by exact rfl) (ho : o.op = .mapUpdate t x y u := by exact rfl) (ht : ty P t = some r := by exact rfl) (hd : r.d = .map k ev' := by exact rfl) (hx : ev e x = some (.map (some b)) := by exact rfl) (hy : ev e y = some (kenc i) := by exact rfl) (hu : ev e u = some (venc w) := by exact rfl)
    (hp : Pick (Mp P k kenc venc b l) L L' := by exact pick) (hg : wn ops e o = some true := by exact rfl) (hdd : o.dst = none := by exact rfl) (hq : isQK qs ops j = false := by exact rfl) : RG P n qs T ops (.a j pl) C e L :=
  .det0 hj hg hdd (O.mapUpdate K ho ht hd hx hy hu hi hp) hn hq
theorem RS.look (K : KeyEnc P k kenc ok) (i : α) {zv : Value} (hi : ok i) (hz : ∀ w, (zeroValue ev').run P w = .ok zv w) (hv : (match kget l i with | some v => venc v | none => zv) = v) (hn : RS P n ops rest C ((d, v) :: e) L) (ho : o.op = .lookup t x y false := by exact rfl) (ht : ty P t = some r := by exact rfl) (hd : r.d = .map k ev' := by exact rfl) (hx : ev e x = some (.map (some b)) := by exact rfl) (hy : ev e y = some (kenc i) := by exact rfl)
    (hp : Pick (Mp P k kenc venc b l) L L' := by exact pick) (hg : o.guard = none := by exact rfl) (hdd : o.dst = some d := by exact rfl) (hf : Nat.blt d n = true := by exact rfl) : RS P n ops (o :: rest) C e L :=
  .quiet hg hdd hf (hv ▸ Q.lookup K ho ht hd hz hx hy hi hp) hn
theorem RG.look (K : KeyEnc P k kenc ok) (i : α) {zv : Value} (hi : ok i) (hz : ∀ w, (zeroValue ev').run P w = .ok zv w) (hv : (match kget l i with | some v => venc v | none => zv) = v) (hn : RG P n qs T ops pl C ((d, v) :: e) L) (hj : ops[j]? = some o := by exact rfl) (ho : o.op = .lookup t x y false := by exact rfl) (ht : ty P t = some r := by exact rfl) (hd : r.d = .map k ev' := by exact rfl) (hx : ev e x = some (.map (some b)) := by exact rfl) (hy : ev e y = some (kenc i) := by exact rfl)
    (hp : Pick (Mp P k kenc venc b l) L L' := by exact pick) (hg : wn ops e o = some true := by exact rfl) (hdd : o.dst = some d := by exact rfl) (hf : Nat.blt d n = true := by exact rfl) (hm : isMem o.op = true := by exact rfl) (hT : isT qs j = false := by exact rfl) : RG P n qs T ops (.q j pl) C e L :=
  .take hj hg hdd hf (hv ▸ Q.lookup K ho ht hd hz hx hy hi hp) hn hm hT
end
theorem RV.agg {P : Program} [Tab P] {e : Env} {L L' : List HP} {a t b bt : Nat} {q : Bool} {cs : List Value} {r : Row} (h : look e a = some (.pointer (some ⟨b, 0, none⟩)) := by exact rfl) (hp : Pick (Blk q b cs bt) L L' := by exact pick) (ht : ty P t = some r := by exact rfl) (ha : r.agg = true := by exact rfl) (hl : cs.length = r.size := by exact rfl) : RV P e L (.cell a t) (.agg cs.toArray) :=
  .cell h fun w hs => run_loadAgg ht ha hl fun j v hj => (cell_own (q := q) (hs.ent hp.ent).own).trans (by rw [Nat.zero_add]; exact hj)
theorem RV.one {P : Program} [Tab P] {e : Env} {L L' : List HP} {a t b bt : Nat} {q : Bool} {v : Value} {r : Row} (h : look e a = some (.pointer (some ⟨b, 0, none⟩)) := by exact rfl) (hp : Pick (Blk q b [v] bt) L L' := by exact pick) (ht : ty P t = some r := by exact rfl) (ha : r.agg = false := by exact rfl) : RV P e L (.cell a t) v :=
  .cell h fun w hs => run_loadVar ht ha ((cell_own (q := q) (hs.ent hp.ent).own).trans rfl)
section
variable {P : Program} {n : Nat} {e : Env} {L L' S : List HP} {o : Oper} {v u : Value} {x y : Operand} [Tab P] {sz E m c : Nat} {A : Option Addr} {cs : List Value}
 omit [Tab P] in
theorem Gr.own {w : World} (h : Sat w (Gr sz E A m c cs :: L)) (h0 : 0 < cs.length) : ∃ g, ∃ pre junk : List Value, A = some ⟨g, pre.length, none⟩ ∧ cs.length = m * sz ∧ m ≤ c ∧ c ≤ maxLen ∧ junk.length = (c - m) * sz ∧ Sat w (Blk true g (pre ++ cs ++ junk) E :: L) := by
  obtain ⟨q, hq, r1, r2, p1, p2, p3, ⟨hcl, hgr⟩, p4⟩ := h
  rcases hgr with ⟨rfl, rfl⟩ | ⟨g, pre, junk, rfl, hnc, hcm, hj, hown⟩
  · simp at hcl; rw [hcl] at h0; cases h0
  · exact ⟨g, pre, junk, rfl, hcl, hnc, hcm, hj, q, hq, r1, r2, p1, p2, p3, hown, p4⟩
 omit [Tab P] in
theorem Gr.back {w : World} {g : Nat} {pre junk : List Value} (h : Sat w (Blk true g (pre ++ cs ++ junk) E :: L)) (h1 : cs.length = m * sz) (h2 : m ≤ c) (h3 : c ≤ maxLen) (h4 : junk.length = (c - m) * sz) : Sat w (Gr sz E (some ⟨g, pre.length, none⟩) m c cs :: L) := by
  obtain ⟨q, hq, r1, r2, p1, p2, p3, hown, p4⟩ := h
  exact ⟨q, hq, r1, r2, p1, p2, p3, ⟨h1, .inr ⟨g, pre, junk, rfl, h2, h3, h4, hown⟩⟩, p4⟩
theorem O.storeRow {t k : Nat} {r : Row} (ho : o.op = .store t x y) (ht : ty P t = some r) (hr : Nat.beq r.size 1 = true) (hx : ev e x = some (.pointer (adr A k))) (hy : ev e y = some v) (hv : isOne v = true)
    (hp : Pick (Gr sz E A m c cs) L L') (hk : k < cs.length) : OpS P n e L o (Det undef (Gr sz E A m c (cs.set k v) :: L')) := .run0 fun F w a h1 h2 => by
  obtain ⟨T⟩ := ty_is ht
  obtain ⟨g, pre, junk, rfl, g1, g2, g3, g4, hs⟩ := Gr.own (h2.ent hp.entF) (by omega)
  have hb := hs.own
  refine ⟨w.setCell ⟨g, pre.length + k, none⟩ v, ?_, ?_⟩
  · unfold execOp; rw [ho]
    have hcell : w.cell? ⟨g, pre.length + k, none⟩ = some cs[k] := by
      rw [cell_own (q := true) hb, List.append_assoc, List.getElem?_append_right (by omega), Nat.add_sub_cancel_left, List.getElem?_append_left hk]; exact List.getElem?_eq_getElem hk
    have hst := run_store P w ⟨g, pre.length + k, none⟩ v .plain (isOne_cells hv).2
    simp only [hcell, frozen_own hb] at hst
    have e1 : r.size = 1 := Nat.eq_of_beq_eq_true hr
    simp [h1.eval hx, h1.eval hy, Instr.storeAt, Instr.sureAddr, storeVar, T.run_size, (isOne_cells hv).1, e1, storeCells, adr, addr_add, hst]
  · have := store_upd (off := pre.length + k) hs v
    rw [List.append_assoc, List.set_append_right _ _ (by omega), Nat.add_sub_cancel_left, List.set_append_left _ _ hk, ← List.append_assoc] at this
    exact Gr.back this (by simpa using g1) g2 g3 g4
theorem O.clearTail {t i c' : Nat} {r : Row} {z : Value} {B : Option Addr} (ho : o.op = .call ⟨.builtin .clear, #[x], #[t]⟩) (ht : ty P t = some r) (hd : r.d = .slice E) (hz : ∀ w, (zeroValue E).run P w = .ok z w) (hz1 : isOne z = true) (hx : ev e x = some (.slice B (m - i) c')) (hi : i < m) (hB : B = adr A (i * 1))
    (hp : Pick (Gr 1 E A m c cs) L L') : OpS P n e L o (Det (.tuple #[]) (Gr 1 E A i c (cs.take i) :: L')) := .run fun F w a h1 h2 => by
  obtain ⟨T⟩ := ty_is ht
  have hu : P.underlying t = some (.slice E) := by rw [← T.slice hd]; exact T.under
  have h2' := h2.ent hp.entF
  have hlen : cs.length = m := by obtain ⟨q, hq, r1, r2, p1, p2, p3, ⟨hcl, hgr⟩, p4⟩ := h2'; omega
  obtain ⟨g, pre, junk, rfl, g1, g2, g3, g4, hs⟩ := Gr.own h2' (by omega)
  have hzc : (Builtin.zeroCells z.cells (m - i)).toList = List.replicate (m - i) z := by
    rw [(isOne_cells hz1).1]
    simp [Builtin.zeroCells]
    apply List.ext_getElem
    · simp
    · intro i h1 h2
      simp [Nat.mod_one]
  obtain ⟨w', cs', h3, h4, h5, h6⟩ := run_storeCells (P := P) (off := pre.length + i) (vs := List.replicate (m - i) z) 0 hs (fun v hv => by rw [List.eq_of_mem_replicate hv]; exact hz1) (by simp; omega)
  refine ⟨_, w', _, ?_, ⟨rfl, rfl⟩, ?_⟩
  · unfold execOp; rw [ho]
    subst hB
    obtain ⟨k, hk⟩ : ∃ k, m - i = k + 1 := ⟨m - i - 1, by omega⟩
    rw [hk] at hx hzc h3
    simp [resolve, invoke, builtin, h1.eval hx, Builtin.clear_, run_underlying hu, hz w, hzc, adr, addr_add, h3]
  · have e1 : cs' = pre ++ cs.take i ++ cs'.drop (pre.length + i) := by
      apply List.ext_getElem?
      intro j
      have hpl : (pre ++ cs.take i).length = pre.length + i := by simp; omega
      by_cases hj : j < pre.length + i
      · rw [List.getElem?_append_left (by omega), h6 j, if_neg (by omega), List.append_assoc]
        by_cases hjp : j < pre.length
        · rw [List.getElem?_append_left hjp, List.getElem?_append_left hjp]
        · rw [List.getElem?_append_right (by omega), List.getElem?_append_left (by omega), List.getElem?_append_right (by omega), List.getElem?_take_of_lt (by omega)]
      · rw [List.getElem?_append_right (by omega), List.getElem?_drop, hpl]
        congr 1; omega
    rw [e1] at h4
    exact Gr.back h4 (by simp; omega) (by omega) g3 (by simp at h5 ⊢; omega)
 omit [Tab P] in
theorem add0 (k : Nat) : (A.map (·.add (0 * k))) = A := by
  cases A with
  | none => rfl
  | some a => rw [Nat.zero_mul]; rfl
theorem Q.sliceTo {t d len cap hi : Nat} {r re : Row} {y : Operand} (ho : o.op = .slice t x none (some y) none) (ht : ty P t = some r) (hd : r.d = .slice d) (hte : ty P d = some re) (hx : ev e x = some (.slice A len cap)) (hy : ev e y = some (.int .i64 (hi : Int))) (hh : hi ≤ cap) :
    QOp P n e S o (.slice A hi cap) := by
  have h := Q.slice (n := n) (lo := 0) (hi := hi) (S := S) ho ht hd hte hx (vl := none) (vh := some (.int .i64 (hi : Int))) rfl (by simp [hy]) (.inr ⟨rfl, hh⟩) (.inl ⟨rfl, rfl⟩)
  rw [add0, ite_self, Nat.sub_zero, Nat.sub_zero] at h
  exact h
theorem Q.sliceFrom {t d len cap lo : Nat} {r re : Row} {y : Operand} (ho : o.op = .slice t x (some y) none none) (ht : ty P t = some r) (hd : r.d = .slice d) (hte : ty P d = some re) (hx : ev e x = some (.slice A len cap)) (hy : ev e y = some (.int .i64 (lo : Int))) (hh : lo ≤ len) :
    QOp P n e S o (.slice (if cap = lo then A else adr A (lo * re.size)) (len - lo) (cap - lo)) :=
  Q.slice (lo := lo) (hi := len) (S := S) ho ht hd hte hx (vl := some (.int .i64 (lo : Int))) (vh := none) (by simp [hy]) rfl (.inl ⟨rfl, rfl⟩) (.inr ⟨rfl, hh⟩)
end
end Go.SL
namespace Go.Proofs.YtocogcgnahbpkaaGreat.Rf
structure Ent where
  term : Nat
  data : List Int
 deriving DecidableEq, Repr
structure Msg where
  kind : Nat
  src : Nat
  dst : Nat
  term : Nat
  idx : Nat := 0
  lt : Nat := 0
  commit : Nat := 0
  es : List Ent := []
  rej : Bool := false
  hint : Nat := 0
 deriving DecidableEq, Repr
structure Cfg where
  n : Nat
  least : Nat
  most : Nat
  beat : Nat
  batch : Nat
structure Nd where
  id : Nat
  term : Nat := 0
  vote : Nat := 0
  log : List Ent := []
  commit : Nat := 0
  role : Nat := 1
  leader : Nat := 0
  elapsed : Nat := 0
  timeout : Nat := 0
  beat : Nat := 0
  mt : Nat → Nat := fun _ => 0
  nx : Nat → Nat := fun _ => 0
  hd : List Nat := []
  gr : List Nat := []
  rf : List Nat := []
def others (c : Cfg) (id : Nat) : List Nat := (List.range' 1 c.n).filter (· ≠ id)
def Nd.fin (s : Nd) : Nat := s.log.length
def Nd.tm (s : Nd) (i : Nat) : Nat := if i = 0 then 0 else ((s.log[i - 1]?).map (·.term)).getD 0
def maj (c : Cfg) (k : Nat) : Bool := decide (c.n < 2 * k)
def rnd (c : Cfg) (draw : Int) : Nat := c.least + (draw % ((c.most : Int) - c.least + 1)).toNat
def rest (c : Cfg) (draw : Int) (s : Nd) : Nd := { s with elapsed := 0, timeout := rnd c draw }
def put (l : List Nat) (x : Nat) : List Nat := if x ∈ l then l else l ++ [x]
def upd (f : Nat → Nat) (p v : Nat) : Nat → Nat := fun q => if q = p then v else f q
def follow (c : Cfg) (draw : Int) (term leader : Nat) (s : Nd) : Nd :=
  rest c draw { s with role := 1, term := max s.term term, vote := if s.term < term then 0 else s.vote, leader := leader }
def stuck (s : Nd) : Bool := s.term == 1099511627776 || s.fin == 1099511627776 || s.fin == 65536
def app (c : Cfg) (s : Nd) (p : Nat) : Msg :=
  { kind := 5, src := s.id, dst := p, term := s.term, idx := s.nx p - 1, lt := s.tm (s.nx p - 1), commit := s.commit, es := (s.log.drop (s.nx p - 1)).take c.batch }
def apps (c : Cfg) (s : Nd) : List Msg := (others c s.id).map (app c s)
def have_ (c : Cfg) (s : Nd) (i : Nat) : Nat := 1 + ((others c s.id).filter fun p => i ≤ s.mt p).length
def countFrom (c : Cfg) (s : Nd) : Nat → Nat
  | 0 => s.commit
  | i + 1 => if i + 1 ≤ s.commit then s.commit else if s.tm (i + 1) = s.term then (if maj c (have_ c s (i + 1)) then i + 1 else countFrom c s i) else s.commit
def count (c : Cfg) (s : Nd) : Nd := { s with commit := countFrom c s s.fin }
def lead (c : Cfg) (s : Nd) : Nd × List Msg :=
  let s := { s with role := 4, leader := s.id, elapsed := 0, beat := 0, mt := fun _ => 0, nx := fun _ => s.fin + 1, hd := [] }
  let s := if s.fin < 1099511627776 then { s with log := s.log ++ [⟨s.term, []⟩] } else s
  let s := count c s
  (s, apps c s)
def stand (c : Cfg) (draw : Int) (s : Nd) : Nd × List Msg :=
  let s := rest c draw { s with term := s.term + 1, vote := s.id, role := 3, leader := 0, gr := [s.id], rf := [] }
  if maj c 1 then lead c s
  else (s, (others c s.id).map fun p => { kind := 3, src := s.id, dst := p, term := s.term, idx := s.fin, lt := s.tm s.fin })
def begin_ (c : Cfg) (draw : Int) (s : Nd) : Nd × List Msg :=
  let s := rest c draw s
  if stuck s then (s, [])
  else
    let s := { s with role := 2, leader := 0, gr := [s.id] }
    if maj c 1 then stand c draw s
    else (s, (others c s.id).map fun p => { kind := 1, src := s.id, dst := p, term := s.term + 1, idx := s.fin, lt := s.tm s.fin })
def tick (c : Cfg) (draw : Int) (s : Nd) : Nd × List Msg :=
  let s := { s with elapsed := s.elapsed + 1 }
  if s.role ≠ 4 then (if s.timeout ≤ s.elapsed then begin_ c draw s else (s, []))
  else
    let s := { s with beat := s.beat + 1 }
    if c.most ≤ s.elapsed ∧ ¬ maj c (1 + s.hd.length) then (follow c draw s.term 0 { s with elapsed := 0 }, [])
    else
      let s := if c.most ≤ s.elapsed then { s with elapsed := 0, hd := [] } else s
      if c.beat ≤ s.beat then let s := { s with beat := 0 }; (s, apps c s) else (s, [])
def propose (c : Cfg) (l : List (List Int)) (s : Nd) : Nd × List Msg :=
  let s := count c { s with log := s.log ++ l.map fun b => ⟨s.term, b⟩ }
  (s, apps c s)
def refuse (l : List (List Int)) (s : Nd) : Nat :=
  if ¬ (1 ≤ l.length ∧ l.length ≤ 16) then 1 else if s.role ≠ 4 then 163 else if 1099511627776 < s.fin + l.length then 166 else if 65536 < s.fin + l.length then 5 else 0
def far (p : Nat) (s : Nd) : Nd := if s.role = 4 then { s with hd := s.hd.filter (· ≠ p) } else s
def good (m : Msg) (s : Nd) : Bool := decide (s.tm s.fin < m.lt) || (m.lt == s.tm s.fin && decide (s.fin ≤ m.idx))
def led (c : Cfg) (s : Nd) : Bool := s.role == 4 || (s.leader != 0 && decide (s.elapsed < c.least))
def re (s : Nd) (m : Msg) (kind term idx : Nat) (rej : Bool) (hint : Nat) : Msg := { kind := kind, src := s.id, dst := m.src, term := term, idx := idx, rej := rej, hint := hint }
def preVote (m : Msg) (s : Nd) : Nd × List Msg :=
  if s.term < m.term ∧ good m s = true then (s, [re s m 2 m.term 0 false 0]) else (s, [re s m 2 s.term 0 true 0])
def preReply (c : Cfg) (draw : Int) (m : Msg) (s : Nd) : Nd × List Msg :=
  if s.role ≠ 2 ∨ m.rej = true ∨ m.term ≠ s.term + 1 then (s, [])
  else
    let s := { s with gr := put s.gr m.src }
    if maj c s.gr.length then stand c draw s else (s, [])
def vote (c : Cfg) (draw : Int) (m : Msg) (s : Nd) : Nd × List Msg :=
  if good m s = true ∧ (s.vote = m.src ∨ (s.vote = 0 ∧ s.leader = 0)) then
    let s := rest c draw { s with vote := m.src }
    (s, [re s m 4 s.term 0 false 0])
  else (s, [re s m 4 s.term 0 true 0])
def voteReply (c : Cfg) (draw : Int) (m : Msg) (s : Nd) : Nd × List Msg :=
  if s.role ≠ 3 then (s, [])
  else if m.rej = false then
    let s := { s with rf := s.rf.filter (· ≠ m.src), gr := put s.gr m.src }
    if maj c s.gr.length then lead c s else (s, [])
  else
    let s := if m.src ∈ s.gr then s else { s with rf := put s.rf m.src }
    if maj c s.rf.length then (follow c draw s.term 0 s, []) else (s, [])
def merge : List Ent → Nat → List Ent → List Ent × Nat
  | log, i, [] => (log, i)
  | log, i, e :: es => if (log[i]?).map (·.term) = some e.term then merge log (i + 1) es else
      let l := log.take i
      let t := (e :: es).take (65536 - l.length)
      (l ++ t, i + t.length)
def append (c : Cfg) (draw : Int) (m : Msg) (s : Nd) : Nd × List Msg :=
  let s := follow c draw m.term m.src s
  if m.idx < s.commit then (s, [re s m 6 s.term s.commit false 0])
  else if s.fin < m.idx then (s, [re s m 6 s.term m.idx true s.fin])
  else if s.tm m.idx ≠ m.lt then (s, [re s m 6 s.term m.idx true (m.idx - 1)])
  else
    let (l, i) := merge s.log m.idx m.es
    let s := { s with log := l, commit := max s.commit (min m.commit i) }
    (s, [re s m 6 s.term i false 0])
def appendReply (c : Cfg) (m : Msg) (s : Nd) : Nd × List Msg :=
  if s.role ≠ 4 then (s, [])
  else
    let p := m.src
    let s := { s with hd := put s.hd p }
    if m.rej = true then
      if m.idx + 1 = s.nx p then
        let s := { s with nx := upd s.nx p (min (max (s.mt p) m.hint + 1) (s.fin + 1)) }
        (s, [app c s p])
      else (s, [])
    else if s.mt p < m.idx then
      let s := { s with mt := upd s.mt p m.idx, nx := upd s.nx p (m.idx + 1) }
      let was := s.commit
      let s := count c s
      if was < s.commit then (s, apps c s) else if s.nx p ≤ s.fin then (s, [app c s p]) else (s, [])
    else (s, [])
def old (m : Msg) (s : Nd) : List Msg :=
  if m.kind = 5 then [re s m 6 s.term m.idx true 0] else if m.kind = 1 then [re s m 2 s.term 0 true 0] else if m.kind = 3 then [re s m 4 s.term 0 true 0] else []
def kinds (c : Cfg) (draw : Int) (m : Msg) (s : Nd) : Nd × List Msg :=
  match m.kind with
  | 1 => preVote m s
  | 2 => preReply c draw m s
  | 3 => vote c draw m s
  | 4 => voteReply c draw m s
  | 5 => append c draw m s
  | 6 => appendReply c m s
  | _ => (s, [])
def message (c : Cfg) (draw : Int) (m : Msg) (s : Nd) : Nd × List Msg :=
  if (m.kind = 1 ∨ m.kind = 3) ∧ s.term < m.term ∧ led c s = true then (s, [])
  else if s.term < m.term ∧ m.kind ≠ 1 ∧ (m.kind ≠ 2 ∨ m.rej = true) then kinds c draw m (follow c draw m.term (if m.kind = 5 then m.src else 0) s)
  else if m.term < s.term then (s, old m s)
  else kinds c draw m s
end Go.Proofs.YtocogcgnahbpkaaGreat.Rf
namespace Go.Proofs.YtocogcgnahbpkaaGreat.Rf
def tmL (l : List Ent) (i : Nat) : Nat := if i = 0 then 0 else ((l[i - 1]?).map (·.term)).getD 0
theorem tm_eq (s : Nd) (i : Nat) : s.tm i = tmL s.log i := rfl
structure Maj (n : Nat) (Q : List Nat) : Prop where
  nd : Q.Nodup
  rng : ∀ q ∈ Q, 1 ≤ q ∧ q ≤ n
  big : n < 2 * Q.length
theorem nodup_le {Q R : List Nat} (hn : Q.Nodup) (h : ∀ q ∈ Q, q ∈ R) : Q.length ≤ R.length := by
  induction Q generalizing R with
  | nil => exact Nat.zero_le _
  | cons a Q ih =>
    obtain ⟨ha, hn⟩ := List.nodup_cons.1 hn
    have hm : a ∈ R := h a (by simp)
    have := ih (R := R.erase a) hn (fun q hq => by
      have hne : q ≠ a := fun e => ha (by rw [← e]; exact hq)
      exact (List.mem_erase_of_ne hne).2 (h q (by simp [hq])))
    rw [List.length_erase_of_mem hm] at this
    have : 0 < R.length := List.length_pos_of_mem hm
    simp only [List.length_cons]; omega
theorem Maj.meet {n : Nat} {Q R : List Nat} (hQ : Maj n Q) (hR : Maj n R) : ∃ q, q ∈ Q ∧ q ∈ R := by
  refine Classical.byContradiction fun hne => ?_
  have hd : ∀ q ∈ Q, q ∉ R := fun q h1 h2 => hne ⟨q, h1, h2⟩
  have hnd : (Q ++ R).Nodup := List.nodup_append.2 ⟨hQ.nd, hR.nd, fun a ha b hb e => hd a ha (by rw [e]; exact hb)⟩
  have := nodup_le (R := List.range' 1 n) hnd (fun q hq => by
    rcases List.mem_append.1 hq with h | h
    · have := hQ.rng q h; exact List.mem_range'_1.2 (by omega)
    · have := hR.rng q h; exact List.mem_range'_1.2 (by omega))
  have h1 := hQ.big
  have h2 := hR.big
  simp only [List.length_append, List.length_range'] at this
  omega
structure Gh where
  lid : Nat → Nat
  llog : Nat → List Ent
  voted : Nat → Nat → Nat
  ack : Nat → Nat → Nat
  clog : Nat → Nat → List Ent
  vlog : Nat → Nat → List Ent
def Agree (g : Gh) (l : List Ent) : Prop := ∀ k, 1 ≤ k → k ≤ l.length → 1 ≤ tmL l k ∧ g.lid (tmL l k) ≠ 0 ∧ k ≤ (g.llog (tmL l k)).length ∧ l.take k = (g.llog (tmL l k)).take k
def upTo (C L : List Ent) : Prop := tmL L L.length < tmL C C.length ∨ (tmL L L.length = tmL C C.length ∧ L.length ≤ C.length)
def Choos (n : Nat) (nd : Nat → Nd) (g : Gh) (t i : Nat) : Prop := ∃ Q, Maj n Q ∧ ∀ q ∈ Q, i ≤ g.ack t q ∨ (nd q).term ≤ t
def Comm (n : Nat) (g : Gh) (t i : Nat) : Prop := 1 ≤ i ∧ tmL (g.llog t) i = t ∧ ∃ Q, Maj n Q ∧ ∀ q ∈ Q, i ≤ g.ack t q
def CommOK (n : Nat) (g : Gh) (T : Nat) (l : List Ent) (c : Nat) : Prop := c ≤ l.length ∧ (c = 0 ∨ ∃ t0 c', t0 ≤ T ∧ c ≤ c' ∧ Comm n g t0 c' ∧ l.take c = (g.llog t0).take c)
structure Form (m : Msg) : Prop where
  kind : 1 ≤ m.kind ∧ m.kind ≤ 6
  ne : m.src ≠ m.dst
  term : 1 ≤ m.term
  lt : m.lt ≤ m.term
  zero : m.kind = 1 ∨ m.kind = 3 ∨ m.kind = 5 → (m.lt = 0 ↔ m.idx = 0)
  es : m.kind ≠ 5 → m.es = []
  len : m.es.length ≤ 16
  hint : m.kind = 6 → m.rej = true → m.hint < m.idx ∨ (m.hint = 0 ∧ m.idx = 0)
structure MsgOK (n : Nat) (g : Gh) (m : Msg) : Prop where
  form : Form m
  rng : (1 ≤ m.src ∧ m.src ≤ n) ∧ (1 ≤ m.dst ∧ m.dst ≤ n)
  vote : m.kind = 3 → g.voted m.term m.src = m.src ∧ (g.clog m.term m.src).length = m.idx ∧ tmL (g.clog m.term m.src) m.idx = m.lt
  grant : m.kind = 4 → m.rej = false → g.voted m.term m.src = m.dst
  app : m.kind = 5 → g.lid m.term = m.src ∧ m.idx + m.es.length ≤ (g.llog m.term).length ∧ m.lt = tmL (g.llog m.term) m.idx ∧ m.es = ((g.llog m.term).drop m.idx).take m.es.length ∧ CommOK n g m.term (g.llog m.term) m.commit
  took : m.kind = 6 → m.rej = false → m.idx ≤ g.ack m.term m.src
def termOf (m : Msg) (T : Nat) : Prop := (m.kind = 1 → m.term ≤ T + 1) ∧ (m.kind = 2 → m.rej = true → m.term ≤ T) ∧ (3 ≤ m.kind → m.term ≤ T)
def setN (nd : Nat → Nd) (i : Nat) (s : Nd) : Nat → Nd := fun j => if j = i then s else nd j
def upd2 {α : Type} (f : Nat → Nat → α) (t q : Nat) (v : α) : Nat → Nat → α := fun a b => if a = t ∧ b = q then v else f a b
def upd1 {α : Type} (f : Nat → α) (t : Nat) (v : α) : Nat → α := fun a => if a = t then v else f a
structure Inv (n : Nat) (nd : Nat → Nd) (net : List Msg) (g : Gh) : Prop where
  ids : ∀ i, (nd i).id = i
  rng : ∀ i, (nd i).role ≠ 1 → 1 ≤ i ∧ i ≤ n
  llT : ∀ t k, tmL (g.llog t) k ≤ t
  llA : ∀ t, Agree g (g.llog t)
  llQ : ∀ t, g.lid t ≠ 0 → g.voted t (g.lid t) = g.lid t ∧ ∃ Q, Maj n Q ∧ ∀ q ∈ Q, g.voted t q = g.lid t
  llN : ∀ t, g.lid t = 0 → g.llog t = [] ∧ ∀ q, g.ack t q = 0
  lead : ∀ i, (nd i).role = 4 → g.lid (nd i).term = i ∧ g.llog (nd i).term = (nd i).log ∧ g.ack (nd i).term i = (nd i).log.length ∧ ∀ p, p ≠ i → (nd i).mt p ≤ g.ack (nd i).term p
  nxt : ∀ i, (nd i).role = 4 → ∀ p, p ≠ i → (nd i).mt p < (nd i).nx p ∧ (nd i).nx p ≤ (nd i).log.length + 1
  voteN : ∀ i, g.voted (nd i).term i = (nd i).vote
  voteF : ∀ i t, (nd i).term < t → g.voted t i = 0 ∧ g.ack t i = 0
  cand : ∀ i, (nd i).role = 3 → (nd i).vote = i ∧ g.clog (nd i).term i = (nd i).log ∧ (nd i).gr.Nodup ∧ i ∈ (nd i).gr ∧ ∀ p ∈ (nd i).gr, (1 ≤ p ∧ p ≤ n) ∧ g.voted (nd i).term p = i
  candT : ∀ i, (nd i).role = 3 → g.lid (nd i).term ≠ i
  votes : ∀ t q c, c ≠ 0 → g.voted t q = c → g.voted t c = c ∧ upTo (g.clog t c) (g.vlog t q) ∧ Agree g (g.clog t c) ∧ (∀ k, tmL (g.clog t c) k < t) ∧ Agree g (g.vlog t q) ∧ (∀ k, tmL (g.vlog t q) k < t)
  comp : ∀ t t' i, t < t' → g.lid t' ≠ 0 → 1 ≤ i → tmL (g.llog t) i = t → Choos n nd g t i → i ≤ (g.llog t').length ∧ (g.llog t').take i = (g.llog t).take i
  vcomp : ∀ t t' q i, t < t' → g.voted t' q ≠ 0 → 1 ≤ i → i ≤ g.ack t q → tmL (g.llog t) i = t → Choos n nd g t i → i ≤ (g.vlog t' q).length ∧ (g.vlog t' q).take i = (g.llog t).take i
  ackL : ∀ t q, g.ack t q ≤ (g.llog t).length
  ackN : ∀ q, g.ack (nd q).term q ≤ (nd q).log.length ∧ (nd q).log.take (g.ack (nd q).term q) = (g.llog (nd q).term).take (g.ack (nd q).term q)
  ncomp : ∀ t q i, 1 ≤ i → i ≤ g.ack t q → tmL (g.llog t) i = t → Choos n nd g t i → i ≤ (nd q).log.length ∧ (nd q).log.take i = (g.llog t).take i
  logA : ∀ i, Agree g (nd i).log
  logT : ∀ i k, tmL (nd i).log k ≤ (nd i).term
  comm : ∀ i, CommOK n g (nd i).term (nd i).log (nd i).commit
  msgs : ∀ m ∈ net, MsgOK n g m ∧ termOf m (nd m.src).term
end Go.Proofs.YtocogcgnahbpkaaGreat.Rf
