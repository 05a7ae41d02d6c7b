/-
  A part of the proof of what E53 says at its head.
-/
import Derived.Test.YtocogcgnahbpkaaGreatE8
import Derived.Test.YtocogcgnahbpkaaGreatE10
namespace Go.Proofs.YtocogcgnahbpkaaGreat.Rf
theorem tmL_zero (l : List Ent) : tmL l 0 = 0 := rfl
theorem tmL_congr {l l' : List Ent} {j k : Nat} (h : l.take j = l'.take j) (hk : k ≤ j) : tmL l k = tmL l' k := by
  unfold tmL
  by_cases h0 : k = 0
  · simp [h0]
  · rw [if_neg h0, if_neg h0]
    have e : ∀ m : List Ent, m[k - 1]? = (m.take j)[k - 1]? := fun m => by rw [List.getElem?_take, if_pos (by omega)]
    rw [e l, e l', h]
theorem tmL_take (l : List Ent) {j k : Nat} (hk : k ≤ j) : tmL (l.take j) k = tmL l k := tmL_congr (j := j) (by rw [List.take_take, Nat.min_self]) hk
theorem tmL_append (l r : List Ent) {k : Nat} (hk : k ≤ l.length) : tmL (l ++ r) k = tmL l k := tmL_congr (j := l.length) (by simp) hk
theorem tmL_past (l : List Ent) {k : Nat} (hk : l.length < k) : tmL l k = 0 := by
  unfold tmL
  rw [if_neg (by omega), List.getElem?_eq_none (by omega)]
  rfl
theorem take_of_take {l l' : List Ent} {j k : Nat} (h : l.take j = l'.take j) (hk : k ≤ j) : l.take k = l'.take k := by
  have := congrArg (List.take k) h
  rwa [List.take_take, List.take_take, Nat.min_eq_left hk] at this
section
variable {g : Gh} {l l' : List Ent}
theorem Agree.take (h : Agree g l) (j : Nat) : Agree g (l.take j) := fun k h1 hk => by
  rw [List.length_take] at hk
  have hkj : k ≤ j := by omega
  rw [tmL_take l hkj, List.take_take, Nat.min_eq_left hkj]
  exact h k h1 (by omega)
theorem Agree.same (h : Agree g l) (h' : Agree g l') {k : Nat} (h1 : 1 ≤ k) (hk : k ≤ l.length) (hk' : k ≤ l'.length) (ht : tmL l k = tmL l' k) : l.take k = l'.take k := by
  have a := (h k h1 hk).2.2.2
  have b := (h' k h1 hk').2.2.2
  rw [a, ht, b]
theorem Agree.mono (hT : ∀ t k, tmL (g.llog t) k ≤ t) (h : Agree g l) {j k : Nat} (hjk : j ≤ k) (hk : k ≤ l.length) : tmL l j ≤ tmL l k := by
  by_cases h1 : 1 ≤ k
  · have a := (h k h1 hk).2.2.2
    rw [tmL_congr a hjk]
    exact hT _ _
  · obtain rfl : j = k := by omega
    exact Nat.le_refl _
theorem Agree.pos (h : Agree g l) {k : Nat} (h1 : 1 ≤ k) (hk : k ≤ l.length) : 1 ≤ tmL l k := (h k h1 hk).1
theorem Agree.nil : Agree g [] := fun k h1 hk => by simp at hk; omega
end
theorem elect {g : Gh} (hT : ∀ t k, tmL (g.llog t) k ≤ t) {t' t i : Nat} {C L : List Ent}
    (hcomp : ∀ v, t < v → v < t' → g.lid v ≠ 0 → i ≤ (g.llog v).length ∧ (g.llog v).take i = (g.llog t).take i)
    (hC : Agree g C) (hCt : ∀ k, tmL C k < t') (hL : Agree g L) (hup : upTo C L) (h1 : 1 ≤ i) (hti : tmL (g.llog t) i = t) (hiL : i ≤ L.length) (hpre : L.take i = (g.llog t).take i) : i ≤ C.length ∧ C.take i = (g.llog t).take i := by
  have hLi : tmL L i = t := by rw [tmL_congr hpre (Nat.le_refl _)]; exact hti
  have hlast : t ≤ tmL L L.length := by rw [← hLi]; exact hL.mono hT hiL (Nat.le_refl _)
  have hCn : 1 ≤ C.length := by
    rcases Nat.eq_zero_or_pos C.length with h0 | h0
    · have ht1 : 1 ≤ tmL L L.length := hL.pos (by omega) (Nat.le_refl _)
      rcases hup with h | ⟨h, _⟩
      · rw [h0, tmL_zero] at h; omega
      · rw [h0, tmL_zero] at h; omega
    · exact h0
  obtain ⟨_, hv0, hvl, hvt⟩ := hC C.length hCn (Nat.le_refl _)
  rw [List.take_length] at hvt
  rcases hup with hlt | ⟨heq, hlen⟩
  ·
    have hv : t < tmL C C.length := by omega
    obtain ⟨c1, c2⟩ := hcomp _ hv (hCt _) hv0
    have hCi : i ≤ C.length := by
      refine Classical.byContradiction fun hn => ?_
      have h2 : tmL C C.length = tmL (g.llog t) C.length := by
        have e1 : tmL C C.length = tmL (g.llog (tmL C C.length)) C.length := by
          refine tmL_congr (j := C.length) ?_ (Nat.le_refl _)
          rw [List.take_length]; exact hvt
        rw [e1]
        exact tmL_congr c2 (by omega)
      have := hT t C.length
      omega
    refine ⟨hCi, ?_⟩
    rw [← c2]
    refine take_of_take (j := C.length) ?_ hCi
    rw [List.take_length]; exact hvt
  ·
    have hL1 : 1 ≤ L.length := by omega
    obtain ⟨_, _, _, hLt⟩ := hL L.length hL1 (Nat.le_refl _)
    rw [List.take_length] at hLt
    have hCi : i ≤ C.length := by omega
    refine ⟨hCi, ?_⟩
    rw [← hpre]
    have e1 : C.take i = (g.llog (tmL C C.length)).take i := take_of_take (j := C.length) (by rw [List.take_length]; exact hvt) hCi
    have e2 : L.take i = (g.llog (tmL L L.length)).take i := take_of_take (j := L.length) (by rw [List.take_length]; exact hLt) hiL
    rw [e1, e2, heq]
end Go.Proofs.YtocogcgnahbpkaaGreat.Rf
namespace Go.Proofs.YtocogcgnahbpkaaGreat.Rs
open Rf (Ent Msg Cfg tmL)
structure Nd where
  id : Nat
  term : Nat := 0
  vote : Nat := 0
  log : List Ent := []
  snap : Nat := 0
  commit : Nat := 0
  role : Nat := 1
  leader : Nat := 0
  elapsed : Nat := 0
  timeout : Nat := 0
  beat : Nat := 0
  heir : Nat := 0
  mt : Nat → Nat := fun _ => 0
  nx : Nat → Nat := fun _ => 0
  hd : List Nat := []
  gr : List Nat := []
  rf : List Nat := []
def others (c : Cfg) (id : Nat) : List Nat := (List.range' 1 c.n).filter (· ≠ id)
def Nd.fin (s : Nd) : Nat := s.log.length
def Nd.tm (s : Nd) (i : Nat) : Nat := tmL s.log i
def maj (c : Cfg) (k : Nat) : Bool := decide (c.n < 2 * k)
def rnd (c : Cfg) (draw : Int) : Nat := c.least + (draw % ((c.most : Int) - c.least + 1)).toNat
def rest (c : Cfg) (draw : Int) (s : Nd) : Nd := { s with elapsed := 0, timeout := rnd c draw }
def put (l : List Nat) (x : Nat) : List Nat := if x ∈ l then l else l ++ [x]
def upd (f : Nat → Nat) (p v : Nat) : Nat → Nat := fun q => if q = p then v else f q
def follow (c : Cfg) (draw : Int) (term leader : Nat) (s : Nd) : Nd :=
  rest c draw { s with role := 1, term := max s.term term, vote := if s.term < term then 0 else s.vote, leader := leader, heir := 0 }
def stuck (s : Nd) : Bool := s.term == 1099511627776 || s.fin == 1099511627776 || s.fin - s.snap == 65536
def app (c : Cfg) (s : Nd) (p : Nat) : Msg :=
  if s.nx p ≤ s.snap then { kind := 7, src := s.id, dst := p, term := s.term, idx := s.snap, lt := s.tm s.snap, commit := s.commit }
  else { kind := 5, src := s.id, dst := p, term := s.term, idx := s.nx p - 1, lt := s.tm (s.nx p - 1), commit := s.commit, es := (s.log.drop (s.nx p - 1)).take c.batch }
def apps (c : Cfg) (s : Nd) : List Msg := (others c s.id).map (app c s)
def have_ (c : Cfg) (s : Nd) (i : Nat) : Nat := 1 + ((others c s.id).filter fun p => i ≤ s.mt p).length
def countFrom (c : Cfg) (s : Nd) : Nat → Nat
  | 0 => s.commit
  | i + 1 => if i + 1 ≤ s.commit then s.commit else if s.tm (i + 1) = s.term then (if maj c (have_ c s (i + 1)) then i + 1 else countFrom c s i) else s.commit
def count (c : Cfg) (s : Nd) : Nd := { s with commit := countFrom c s s.fin }
def lead (c : Cfg) (s : Nd) : Nd × List Msg :=
  let s := { s with role := 4, leader := s.id, heir := 0, elapsed := 0, beat := 0, mt := fun _ => 0, nx := fun _ => s.fin + 1, hd := [] }
  let s := if s.fin < 1099511627776 then { s with log := s.log ++ [⟨s.term, []⟩] } else s
  let s := count c s
  (s, apps c s)
def stand (c : Cfg) (draw : Int) (hint : Nat) (s : Nd) : Nd × List Msg :=
  let s := rest c draw { s with term := s.term + 1, vote := s.id, role := 3, leader := 0, heir := 0, gr := [s.id], rf := [] }
  if maj c 1 then lead c s
  else (s, (others c s.id).map fun p => { kind := 3, src := s.id, dst := p, term := s.term, idx := s.fin, lt := s.tm s.fin, hint := hint })
def begin_ (c : Cfg) (draw : Int) (s : Nd) : Nd × List Msg :=
  let s := rest c draw s
  if stuck s then (s, [])
  else
    let s := { s with role := 2, leader := 0, heir := 0, gr := [s.id] }
    if maj c 1 then stand c draw 0 s
    else (s, (others c s.id).map fun p => { kind := 1, src := s.id, dst := p, term := s.term + 1, idx := s.fin, lt := s.tm s.fin })
def tick (c : Cfg) (draw : Int) (s : Nd) : Nd × List Msg :=
  let s := { s with elapsed := s.elapsed + 1 }
  if s.role ≠ 4 then (if s.timeout ≤ s.elapsed then begin_ c draw s else (s, []))
  else
    let s := { s with beat := s.beat + 1 }
    if c.most ≤ s.elapsed ∧ ¬ maj c (1 + s.hd.length) then (follow c draw s.term 0 { s with elapsed := 0 }, [])
    else
      let s := if c.most ≤ s.elapsed then { s with elapsed := 0, heir := 0, hd := [] } else s
      if c.beat ≤ s.beat then let s := { s with beat := 0 }; (s, apps c s) else (s, [])
def propose (c : Cfg) (l : List (List Int)) (s : Nd) : Nd × List Msg :=
  let s := count c { s with log := s.log ++ l.map fun b => ⟨s.term, b⟩ }
  (s, apps c s)
def refuse (l : List (List Int)) (s : Nd) : Nat :=
  if ¬ (1 ≤ l.length ∧ l.length ≤ 16) then 1 else if s.role ≠ 4 then 162 else if s.heir ≠ 0 then 164 else if 1099511627776 < s.fin + l.length then 166 else if 65536 < s.fin - s.snap + l.length then 2 else 0
def far (p : Nat) (s : Nd) : Nd := if s.role = 4 then { s with hd := s.hd.filter (· ≠ p) } else s
def compact (i : Nat) (s : Nd) : Nd := { s with snap := i }
def installed (L : List Ent) (s : Nd) : Nd :=
  { s with log := if L.length ≤ s.fin ∧ s.tm L.length = tmL L L.length then s.log else L, snap := L.length, commit := L.length }
def over (s : Nd) (p : Nat) : Msg := { kind := 8, src := s.id, dst := p, term := s.term }
def handOver (c : Cfg) (p : Nat) (s : Nd) : Nd × List Msg :=
  let s := { s with heir := p, elapsed := 0 }
  (s, [if s.mt p = s.fin then over s p else app c s p])
def good (m : Msg) (s : Nd) : Bool := decide (s.tm s.fin < m.lt) || (m.lt == s.tm s.fin && decide (s.fin ≤ m.idx))
def led (c : Cfg) (s : Nd) : Bool := s.role == 4 || (s.leader != 0 && decide (s.elapsed < c.least))
def re (s : Nd) (m : Msg) (kind term idx : Nat) (rej : Bool) (hint : Nat) : Msg := { kind := kind, src := s.id, dst := m.src, term := term, idx := idx, rej := rej, hint := hint }
def preVote (m : Msg) (s : Nd) : Nd × List Msg :=
  if s.term < m.term ∧ good m s = true then (s, [re s m 2 m.term 0 false 0]) else (s, [re s m 2 s.term 0 true 0])
def preReply (c : Cfg) (draw : Int) (m : Msg) (s : Nd) : Nd × List Msg :=
  if s.role ≠ 2 ∨ m.rej = true ∨ m.term ≠ s.term + 1 then (s, [])
  else
    let s := { s with gr := put s.gr m.src }
    if maj c s.gr.length then stand c draw 0 s else (s, [])
def vote (c : Cfg) (draw : Int) (m : Msg) (s : Nd) : Nd × List Msg :=
  if good m s = true ∧ (s.vote = m.src ∨ (s.vote = 0 ∧ s.leader = 0)) then
    let s := rest c draw { s with vote := m.src }
    (s, [re s m 4 s.term 0 false 0])
  else (s, [re s m 4 s.term 0 true 0])
def voteReply (c : Cfg) (draw : Int) (m : Msg) (s : Nd) : Nd × List Msg :=
  if s.role ≠ 3 then (s, [])
  else if m.rej = false then
    let s := { s with rf := s.rf.filter (· ≠ m.src), gr := put s.gr m.src }
    if maj c s.gr.length then lead c s else (s, [])
  else
    let s := if m.src ∈ s.gr then s else { s with rf := put s.rf m.src }
    if maj c s.rf.length then (follow c draw s.term 0 s, []) else (s, [])
def merge (room : Nat) : List Ent → Nat → List Ent → List Ent × Nat
  | log, i, [] => (log, i)
  | log, i, e :: es => if (log[i]?).map (·.term) = some e.term then merge room log (i + 1) es else
      let l := log.take i
      let t := (e :: es).take (room - l.length)
      (l ++ t, i + t.length)
def append (c : Cfg) (draw : Int) (m : Msg) (s : Nd) : Nd × List Msg :=
  let s := follow c draw m.term m.src s
  if m.idx < s.commit then (s, [re s m 6 s.term s.commit false 0])
  else if s.fin < m.idx then (s, [re s m 6 s.term m.idx true s.fin])
  else if s.tm m.idx ≠ m.lt then (s, [re s m 6 s.term m.idx true (m.idx - 1)])
  else
    let (l, i) := merge (s.snap + 65536) s.log m.idx m.es
    let s := { s with log := l, commit := max s.commit (min m.commit i) }
    (s, [re s m 6 s.term i false 0])
def snapshot (c : Cfg) (draw : Int) (m : Msg) (s : Nd) : Nd × List Msg :=
  let s := follow c draw m.term m.src s
  if m.idx ≤ s.commit then (s, [re s m 6 s.term s.commit false 0])
  else if m.idx ≤ s.fin ∧ s.tm m.idx = m.lt then ({ s with commit := m.idx }, [re s m 6 s.term m.idx false 0])
  else (s, [re s m 6 s.term m.idx true s.commit])
def learns (c : Cfg) (m : Msg) (s : Nd) : Nd × List Msg :=
  let p := m.src
  let s := { s with hd := put s.hd p }
  if m.rej = true then
    if m.idx + 1 = s.nx p then
      let s := { s with nx := upd s.nx p (min (max (s.mt p) m.hint + 1) (s.fin + 1)) }
      (s, [app c s p])
    else (s, [])
  else if s.mt p < m.idx then
    let s := { s with mt := upd s.mt p m.idx, nx := upd s.nx p (m.idx + 1) }
    let was := s.commit
    let s := count c s
    if was < s.commit then (s, apps c s) else if s.nx p ≤ s.fin then (s, [app c s p]) else (s, [])
  else (s, [])
def appendReply (c : Cfg) (m : Msg) (s : Nd) : Nd × List Msg :=
  if s.role ≠ 4 then (s, [])
  else
    let (s, ms) := learns c m s
    (s, if s.heir = m.src ∧ s.mt m.src = s.fin then ms ++ [over s m.src] else ms)
def takeOver (c : Cfg) (draw : Int) (m : Msg) (s : Nd) : Nd × List Msg :=
  if s.role = 1 ∧ s.leader = m.src ∧ ¬ (stuck s = true) then stand c draw 1 s else (s, [])
def old (m : Msg) (s : Nd) : List Msg :=
  if m.kind = 5 ∨ m.kind = 7 then [re s m 6 s.term m.idx true 0] else if m.kind = 1 then [re s m 2 s.term 0 true 0] else if m.kind = 3 then [re s m 4 s.term 0 true 0] else []
def kinds (c : Cfg) (draw : Int) (m : Msg) (s : Nd) : Nd × List Msg :=
  match m.kind with
  | 1 => preVote m s
  | 2 => preReply c draw m s
  | 3 => vote c draw m s
  | 4 => voteReply c draw m s
  | 5 => append c draw m s
  | 6 => appendReply c m s
  | 7 => snapshot c draw m s
  | 8 => takeOver c draw m s
  | _ => (s, [])
def message (c : Cfg) (draw : Int) (m : Msg) (s : Nd) : Nd × List Msg :=
  if (m.kind = 1 ∨ (m.kind = 3 ∧ m.hint = 0)) ∧ s.term < m.term ∧ led c s = true then (s, [])
  else if s.term < m.term ∧ m.kind ≠ 1 ∧ (m.kind ≠ 2 ∨ m.rej = true) then kinds c draw m (follow c draw m.term (if m.kind = 5 ∨ m.kind = 7 then m.src else 0) s)
  else if m.term < s.term then (s, old m s)
  else kinds c draw m s
end Go.Proofs.YtocogcgnahbpkaaGreat.Rs
namespace Go.SL
open Go.Proofs Go.Proofs.YtocogcgnahbpkaaGreat
open Rs (Nd)
attribute [local irreducible] W RS RG RD Fn FnQ OpS QOp Own Sat Rd Gr Mp
set_option maxRecDepth 10000
def ents : Nat → List Rf.Ent → List EM
  | _, [] => []
  | i, e :: r => ⟨i + 1, e.term, e.data⟩ :: ents (i + 1) r
theorem ents_len : ∀ (i : Nat) (l : List Rf.Ent), (ents i l).length = l.length
  | _, [] => rfl
  | i, e :: r => by rw [ents, List.length_cons, ents_len, List.length_cons]
theorem ents_at : ∀ (i : Nat) (l : List Rf.Ent) (k : Nat), (ents i l)[k]? = (l[k]?).map fun e => ⟨(i + k + 1 : Nat), e.term, e.data⟩
  | _, [], _ => by simp [ents]
  | i, e :: r, 0 => by simp [ents]
  | i, e :: r, k + 1 => by
    rw [ents, List.getElem?_cons_succ, ents_at (i + 1) r k, List.getElem?_cons_succ, show i + 1 + k = i + (k + 1) by omega]
theorem ents_app : ∀ (i : Nat) (l m : List Rf.Ent), ents i (l ++ m) = ents i l ++ ents (i + l.length) m
  | _, [], _ => rfl
  | i, e :: r, m => by rw [List.cons_append, ents, ents_app (i + 1) r m, ents, List.cons_append, List.length_cons, show i + 1 + r.length = i + (r.length + 1) by omega]
structure HW where
  pA : Option Addr
  pc : Nat
  lA : Option Addr
  lc : Nat
  mt : Option Nat
  nx : Option Nat
  hd : Option Nat
  gr : Option Nat
  rf : Option Nat
  sn : Option Nat
  mA : Option Addr
  mc : Nat
  ln : Nat
  tS : Nat
structure EX where
  draw : Int
  mn : Nat := 0
  from_ : Nat := 0
  first : Nat := 0
  last : Nat := 0
abbrev Cfg := Rf.Cfg
def nc (c : Cfg) (h : HW) (s : Nd) (x : EX) : List Value :=
  [.int .i64 s.id, .slice h.pA c.n h.pc, .int .i64 c.least, .int .i64 c.most, .int .i64 c.beat, .int .i64 c.batch, .int .i64 s.term, .int .i64 s.vote, .slice h.lA h.ln h.lc, .int .i64 s.snap, .int .i64 h.tS, .int .i64 s.commit, .int .i64 s.role, .int .i64 s.leader, .int .i64 s.elapsed, .int .i64 s.timeout,
   .map h.mt, .map h.nx, .map h.hd, .int .i64 s.beat, .int .i64 s.heir, .map h.gr, .map h.rf, .int .i64 x.draw, .slice h.mA x.mn h.mc, .map h.sn, .int .i64 x.from_, .int .i64 x.first, .int .i64 x.last]
abbrev Nb (q : Bool) (p : Nat) (c : Cfg) (h : HW) (s : Nd) (x : EX) : HP := Blk q p (nc c h s x) 126
abbrev pt (p : Nat) : Value := .pointer (some ⟨p, 0, none⟩)
abbrev iv (n : Int) : Value := .int .i64 n
structure Sm (c : Cfg) (h : HW) (s : Nd) : Prop where
  ln : h.ln = s.log.length - s.snap
  tS : h.tS = s.tm s.snap
  n : 1 ≤ c.n ∧ c.n ≤ 5
  cf : 1 ≤ c.beat ∧ c.beat < c.least ∧ c.least ≤ c.most ∧ c.most ≤ 1000000 ∧ 1 ≤ c.batch ∧ c.batch ≤ 64
  id : 1 ≤ s.id ∧ s.id ≤ c.n
  term : s.term ≤ 1099511627776
  fin : s.snap ≤ s.commit ∧ s.commit ≤ s.log.length ∧ s.log.length ≤ 1099511627776 ∧ s.log.length ≤ s.snap + 65536
  data : ∀ e ∈ s.log, e.data.length ≤ 140737488351232
  el : s.elapsed ≤ 1099511627776 ∧ s.beat ≤ 1099511627776
section
variable {c : Cfg} {h : HW} {s : Nd} {x : EX} {p : Nat} {q : Bool}
theorem pers1 {b : Nat} {o : Obj} : ∀ Q ∈ [Own false b o], Pers Q := by rintro Q (_ | ⟨_, h⟩); exact Pers.own; cases h
theorem pers2 {b : Nat} {o : Obj} {A : Option Addr} {cs : List Value} : ∀ Q ∈ [Own false b o, Rd false A cs], Pers Q := by
  rintro Q (_ | ⟨_, _ | ⟨_, h⟩⟩)
  · exact Pers.own
  · exact Rd.pers
  · cases h
theorem lend1 {b : Nat} {o : Obj} : Ent [Own q b o] [Own false b o] := .of fun _ h => h.lend
theorem Own.lend' {b : Nat} {o : Obj} {r : Res} (h : Own q b o r) : Own false b o r := h.lend
theorem lend2 {b : Nat} {o : Obj} {X : HP} {A : Option Addr} {cs : List Value} (hX : Reads X A cs) : Ent [Own q b o, X] [Own false b o, Rd false A cs] := lend1.frame.trans (.cons _ (.of hX))
theorem end_q (hs : Sm c h s) : FnQ Tryz.prog 57 [pt p].toArray [Nb q p c h s x] (iv s.log.length) := by
  refine (Fn.quietD (M := [Nb false p c h s x]) ?_ pers1).pre lend1
  have := hs.fin
  have hln := hs.ln
  refine Fn.enter Tryz.func57 rfl (by kernel_rfl) rfl ?_
  refine run ?_
  refine W.plan [] mixed (by rfl) (by kernel_rfl) ?_
  refine run ?_
  refine W.hit 2 rfl (by congr 1; omega : _ = iv s.log.length) ?_
  exact .retD Tryz.func57
theorem maj_q (k : Nat) (hk : k ≤ 1099511627776) : FnQ Tryz.prog 96 [pt p, iv k].toArray [Nb q p c h s x] (.bool (Rs.maj c k)) := by
  refine (Fn.quietD (M := [Nb false p c h s x]) ?_ pers1).pre lend1
  refine Fn.enter Tryz.func96 rfl (by kernel_rfl) rfl ?_
  refine run ?_
  refine RS.quiet rfl rfl rfl (Q.mul rfl rfl rfl (by omega)) ?_
  refine run ?_
  refine W.hit 4 rfl (by unfold Rs.maj; congr 1; rw [decide_eq_decide]; omega : _ = .bool (Rs.maj c k)) ?_
  exact .retD Tryz.func96
theorem rnd_eq (draw : Int) (hc : c.least ≤ c.most) : (c.least + (draw.tmod (c.most - c.least + 1) + (c.most - c.least + 1)).tmod (c.most - c.least + 1) : Int) = (Rs.rnd c draw : Nat) := by
  unfold Rs.rnd
  have hM : (0 : Int) < c.most - c.least + 1 := by omega
  generalize (c.most : Int) - c.least + 1 = M at hM
  have h1 := Int.emod_nonneg draw (show M ≠ 0 by omega)
  have h2 := Int.emod_lt_of_pos draw hM
  have h3 := Int.tmod_lt_of_pos draw hM
  have h4 := Int.lt_tmod_of_pos draw hM
  have e1 : (draw.tmod M + M).tmod M = (draw.tmod M + M) % M := Int.tmod_eq_emod_of_nonneg (by omega)
  have e2 : (draw.tmod M + M) % M = draw % M := by
    rw [Int.add_emod_right]
    have := Int.mul_tdiv_add_tmod draw M
    conv => rhs; rw [← this]
    rw [Int.add_comm, Int.add_mul_emod_self_left]
  rw [e1, e2]
  have := Int.toNat_of_nonneg h1
  omega
theorem rest_ok (hc : 1 ≤ c.beat ∧ c.beat < c.least ∧ c.least ≤ c.most ∧ c.most ≤ 1000000 ∧ 1 ≤ c.batch ∧ c.batch ≤ 64) : Fn Tryz.prog 66 [pt p].toArray [Nb true p c h s x] (Det (.tuple #[]) [Nb true p c h (Rs.rest c x.draw s) x]) := by
  have hm := Int.tmod_lt_of_pos x.draw (show (0 : Int) < c.most - c.least + 1 by omega)
  have hm' := Int.lt_tmod_of_pos x.draw (show (0 : Int) < c.most - c.least + 1 by omega)
  have hb := Int.tmod_lt_of_pos (x.draw.tmod (c.most - c.least + 1) + (c.most - c.least + 1)) (show (0 : Int) < c.most - c.least + 1 by omega)
  have hb' := Int.lt_tmod_of_pos (x.draw.tmod (c.most - c.least + 1) + (c.most - c.least + 1)) (show (0 : Int) < c.most - c.least + 1 by omega)
  refine Fn.enter Tryz.func66 rfl (by kernel_rfl) rfl ?_
  refine run ?_
  refine W.plan [] mixed (by rfl) (by kernel_rfl) ?_
  refine run ?_
  refine W.plan [] mixed (by rfl) (by kernel_rfl) ?_
  refine run ?_
  refine RG.takeP rfl rfl rfl rfl (Q.rem rfl rfl rfl (by omega)) ?_
  refine run ?_
  refine RG.takeP rfl rfl rfl rfl (Q.rem rfl rfl rfl (by omega)) ?_
  refine run ?_
  rw [rnd_eq x.draw hc.2.2.1]
  exact .doneD Tryz.func66
theorem turned_ok {i : Nat} : Fn Tryz.prog 148 [pt p, iv i].toArray [Nb true p c h s x] (Det (.tuple #[]) [Nb true p c h s { x with from_ := if x.from_ = 0 ∨ i < x.from_ then i else x.from_ }]) := by
  refine Fn.enter Tryz.func148 rfl (by kernel_rfl) rfl ?_
  by_cases h0 : x.from_ = 0
  · rw [if_pos (.inl h0)]
    refine run ?_
    exact .doneD Tryz.func148
  · by_cases h1 : i < x.from_
    · rw [if_pos (.inr h1)]
      refine run ?_
      exact .doneD Tryz.func148
    · rw [if_neg (by omega)]
      refine run ?_
      exact .doneD Tryz.func148
theorem follow_ok (hs : Sm c h s) {term leader : Nat} : Fn Tryz.prog 97 [pt p, iv term, iv leader].toArray [Nb true p c h s x] (Det (.tuple #[]) [Nb true p c h (Rs.follow c x.draw term leader s) x]) := by
  refine Fn.enter Tryz.func97 rfl (by kernel_rfl) rfl ?_
  by_cases h0 : s.term < term
  · have e : Rs.follow c x.draw term leader s = Rs.rest c x.draw { s with role := 1, term := term, vote := 0, leader := leader, heir := 0 } := by unfold Rs.follow; rw [if_pos h0, Nat.max_eq_right (by omega)]
    rw [e]
    refine run ?_
    refine .callD (rest_ok (c := c) (h := h) (x := x) (s := { s with role := 1, term := term, vote := 0, leader := leader, heir := 0 }) hs.cf) ?_
    refine run ?_
    exact .doneD Tryz.func97
  · have e : Rs.follow c x.draw term leader s = Rs.rest c x.draw { s with role := 1, leader := leader, heir := 0 } := by unfold Rs.follow; rw [if_neg h0, Nat.max_eq_left (by omega)]
    rw [e]
    refine run ?_
    refine .callD (rest_ok (c := c) (h := h) (x := x) (s := { s with role := 1, leader := leader, heir := 0 }) hs.cf) ?_
    refine run ?_
    exact .doneD Tryz.func97
theorem stuck_q (hs : Sm c h s) : FnQ Tryz.prog 136 [pt p].toArray [Nb q p c h s x] (.bool (Rs.stuck s)) := by
  refine (Fn.quietD (M := [Nb false p c h s x]) ?_ pers1).pre lend1
  have := hs.fin
  have hln := hs.ln
  refine Fn.enter Tryz.func136 rfl (by kernel_rfl) rfl ?_
  by_cases h0 : s.term = 1099511627776
  · refine run ?_
    refine W.hit 2 rfl (by simp [Rs.stuck, h0] : _ = .bool (Rs.stuck s)) ?_
    exact .retD Tryz.func136
  · by_cases h1 : s.log.length = 1099511627776
    · refine run ?_
      refine .callQ (end_q hs) ?_
      refine run ?_
      refine W.hit 2 rfl (by simp [Rs.stuck, Nd.fin, Rs.Nd.fin, h1] : _ = .bool (Rs.stuck s)) ?_
      exact .retD Tryz.func136
    · refine run ?_
      refine .callQ (end_q hs) ?_
      by_cases h2 : s.log.length - s.snap = 65536
      · refine run ?_
        refine W.hit 2 rfl (by simp [Rs.stuck, Rs.Nd.fin, h2] : _ = .bool (Rs.stuck s)) ?_
        exact .retD Tryz.func136
      · refine run ?_
        refine W.hit 2 rfl (by simp [Rs.stuck, Rs.Nd.fin, h0, h1, h2] : _ = .bool (Rs.stuck s)) ?_
        exact .retD Tryz.func136
end
end Go.SL
