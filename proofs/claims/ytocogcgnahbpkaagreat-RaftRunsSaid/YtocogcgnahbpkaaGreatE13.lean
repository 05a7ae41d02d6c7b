/-
  A part of the proof of what E53 says at its head.
-/
import Derived.Test.YtocogcgnahbpkaaGreatE12
namespace Go.SL
open Go.Proofs Go.Proofs.YtocogcgnahbpkaaGreat
open Rs (Nd)
attribute [local irreducible] W RS RG RD Fn FnQ OpS QOp Own Sat Rd Gr Mp Lg Ms Es
set_option maxRecDepth 10000
section
variable {XP : HP} {c : Cfg} {h : HW} {s : Nd} {x : EX} {p : Nat} {q : Bool} {m : Rf.Msg} {A : Option Addr} {cp : Nat} {ms : List Rf.Msg}
def sent (s : Nd) (to : Nat) (m : Rf.Msg) : Rf.Msg := { m with src := s.id, dst := to, term := if m.term = 0 then s.term else m.term }
theorem flatsnoc {ys : List LM} {y : LM} : (ys ++ [y]).flatMap encL = ys.flatMap encL ++ encL y := by simp
theorem send_ok {to : Nat} (hb : x.mn ≤ 1000000) : Fn Tryz.prog 138 [pt p, iv to, .agg (encM m A cp).toArray].toArray [Nb true p c h s x, Ms h.mA x.mn h.mc ms, Lg A m.es.length cp m.idx m.es]
    (fun v M => v = .tuple #[] ∧ ∃ A' c', M = [Nb true p c { h with mA := A', mc := c' } s { x with mn := x.mn + 1 }, Ms A' (x.mn + 1) c' (ms ++ [sent s to m])]) := by
  refine Fn.enter Tryz.func138 rfl (by kernel_rfl) rfl ?_
  refine .ent ((Picks.ent (a := [Ms h.mA x.mn h.mc ms]) picks)) ?_
  refine .ms fun ys hys => ?_
  refine run ?_
  refine .box fun z => ?_
  by_cases h0 : m.term = 0
  · refine run ?_
    refine W.plan [] mixed (by rfl) (by kernel_rfl) ?_
    refine run ?_
    refine .lit fun z2 => ?_
    refine run ?_
    refine .push (sz := 10) (m := 1) (Src.pick rfl rfl .hd .own rfl rfl rfl) fun A3 c3 => ?_
    refine run ?_
    have hsn : sent s to m = { m with src := s.id, dst := to, term := s.term } := by unfold sent; rw [if_pos h0]
    rw [hsn]
    refine .ent ((Picks.sub (a := [Es ys, Lg A m.es.length cp m.idx m.es, Gr 10 59 A3 (x.mn + 1) c3 ((ys ++ [(⟨{ m with src := s.id, dst := to, term := s.term }, A, cp⟩ : LM)]).flatMap encL), Nb true p c { h with mA := A3, mc := c3 } s { x with mn := x.mn + 1 }]) (by
      rw [flatsnoc]; exact picks)).trans ((Es.snoc (y := ⟨{ m with src := s.id, dst := to, term := s.term }, A, cp⟩)).trans ((Ent.perm (.swap _ _ _)).trans (Ms.close (by rw [List.map_append, hys]; try rfl))))) ?_
    exact .doneE Tryz.func138 ⟨rfl, A3, c3, rfl⟩
  · refine run ?_
    refine W.plan [] mixed (by rfl) (by kernel_rfl) ?_
    refine run ?_
    refine .lit fun z2 => ?_
    refine run ?_
    refine .push (sz := 10) (m := 1) (Src.pick rfl rfl .hd .own rfl rfl rfl) fun A3 c3 => ?_
    refine run ?_
    have hsn : sent s to m = { m with src := s.id, dst := to, term := m.term } := by unfold sent; rw [if_neg h0]
    rw [hsn]
    refine .ent ((Picks.sub (a := [Es ys, Lg A m.es.length cp m.idx m.es, Gr 10 59 A3 (x.mn + 1) c3 ((ys ++ [(⟨{ m with src := s.id, dst := to, term := m.term }, A, cp⟩ : LM)]).flatMap encL), Nb true p c { h with mA := A3, mc := c3 } s { x with mn := x.mn + 1 }]) (by
      rw [flatsnoc]; exact picks)).trans ((Es.snoc (y := ⟨{ m with src := s.id, dst := to, term := m.term }, A, cp⟩)).trans ((Ent.perm (.swap _ _ _)).trans (Ms.close (by rw [List.map_append, hys]; try rfl))))) ?_
    exact .doneE Tryz.func138 ⟨rfl, A3, c3, rfl⟩
theorem led_q : FnQ Tryz.prog 101 [pt p].toArray [Nb q p c h s x] (.bool (Rs.led c s)) := by
  refine (Fn.quietD (M := [Nb false p c h s x]) ?_ pers1).pre lend1
  refine Fn.enter Tryz.func101 rfl (by kernel_rfl) rfl ?_
  by_cases h0 : s.role = 4
  · refine run ?_
    refine W.plan [] mixed (by rfl) (by kernel_rfl) ?_
    refine run ?_
    refine W.hit 2 rfl (by simp [Rs.led, h0] : _ = .bool (Rs.led c s)) ?_
    exact .retD Tryz.func101
  · by_cases h1 : s.leader = 0
    · refine run ?_
      refine W.plan [] mixed (by rfl) (by kernel_rfl) ?_
      refine run ?_
      refine W.hit 2 rfl (by simp [Rs.led, h0, h1] : _ = .bool (Rs.led c s)) ?_
      exact .retD Tryz.func101
    · by_cases h2 : s.elapsed < c.least
      · refine run ?_
        refine W.plan [] mixed (by rfl) (by kernel_rfl) ?_
        refine run ?_
        refine W.hit 2 rfl (by simp [Rs.led, h0, h1, h2] : _ = .bool (Rs.led c s)) ?_
        exact .retD Tryz.func101
      · refine run ?_
        refine W.plan [] mixed (by rfl) (by kernel_rfl) ?_
        refine run ?_
        refine W.hit 2 rfl (by simp [Rs.led, h0, h1, h2] : _ = .bool (Rs.led c s)) ?_
        exact .retD Tryz.func101
theorem good_q (hs : Sm c h s) : FnQ Tryz.prog 156 [pt p, .agg (encM m A cp).toArray].toArray [Lg h.lA h.ln h.lc s.snap (s.log.drop s.snap), Nb q p c h s x] (.bool (Rs.good m s)) := by
  refine FnQ.lg (fun les hl => ?_) (.of Tryz.func156 rfl (by kernel_rfl))
  refine FnQ.pre (Fn.quietD (M := [Nb false p c h s x, Rd false h.lA (les.flatMap encLE)]) ?_ pers2) ((Picks.sub (a := [Nb q p c h s x, Gr 3 67 h.lA h.ln h.lc (les.flatMap encLE)]) picks).trans (lend2 .gr))
  have hg : Rs.good m s = (decide (s.tm s.log.length < m.lt) || (m.lt == s.tm s.log.length && decide (s.log.length ≤ m.idx))) := rfl
  refine Fn.enter Tryz.func156 rfl (by kernel_rfl) rfl ?_
  refine run ?_
  refine .box fun z => ?_
  refine run ?_
  refine .callQ (end_q hs) ?_
  refine .callQ (term_r hs hl (i := s.log.length) (by have := hs.fin; omega)) ?_
  by_cases h0 : s.tm s.log.length < m.lt
  · refine run ?_
    refine W.plan [13] mixed (by rfl) (by kernel_rfl) ?_
    refine run ?_
    refine W.hit 4 rfl (by rw [hg]; simp [h0] : _ = .bool (Rs.good m s)) ?_
    exact .retD Tryz.func156
  · by_cases h1 : m.lt = s.tm s.log.length
    · refine run ?_
      refine W.plan [13] mixed (by rfl) (by kernel_rfl) ?_
      refine run ?_
      refine .callQ (end_q hs) ?_
      refine run ?_
      refine W.hit 4 rfl (by rw [hg]; simp [h1] : _ = .bool (Rs.good m s)) ?_
      exact .retD Tryz.func156
    · refine run ?_
      refine W.plan [13] mixed (by rfl) (by kernel_rfl) ?_
      refine run ?_
      refine W.hit 4 rfl (by rw [hg]; simp [h0, h1] : _ = .bool (Rs.good m s)) ?_
      exact .retD Tryz.func156
def tf (f i : Nat) : Nat := if f = 0 ∨ i < f then i else f
def fj (f fin : Nat) : List Rf.Ent → Nat
  | [] => f
  | _ :: _ => tf f (fin + 1)
def upN (s : Nd) (l : List Rf.Ent) : Nd := { s with log := s.log ++ l }
theorem copied_n {A : Option Addr} {c : Nat} {l : List LE} (hl : l.length ≤ 1099511627776) (hd : ∀ x ∈ l, x.e.data.length ≤ 140737488351232) :
    FnN Tryz.prog 58 [.slice A l.length c].toArray [Rd false A (l.flatMap encLE), Ds l] fun v M => ∃ l' : List LE, ∃ A' c', v = .slice A' l'.length c' ∧ l'.map (·.e) = l.map (·.e) ∧ M = [Gr 3 67 A' l'.length c' (l'.flatMap encLE), Gs l'] := by
  refine Fn.new ((copied_ok (X := Rd false A (l.flatMap encLE)) (D := Ds l) .rd (fun r h => h) hl hd).mono ?_) ?_
  · rintro v M ⟨l', A', c', rfl, h1, rfl⟩
    refine ⟨_, .refl _, [Gr 3 67 A' l'.length c' (l'.flatMap encLE), Gs l'], rfl, ⟨l', A', c', rfl, h1, rfl⟩, ?_⟩
    intro Q hQ
    rcases List.mem_cons.1 hQ with rfl | hQ
    · exact Gr.excl
    · rw [List.mem_singleton.1 hQ]; exact Gs.excl
  · rintro Q (_ | ⟨_, _ | ⟨_, h⟩⟩)
    · exact Rd.pers
    · exact Ds.pers
    · cases h
theorem join_ok {X D : HP} {A : Option Addr} {cp : Nat} {l : List LE} {new : List Rf.Ent} (hs : Sm c h s) (hX : Reads X A (l.flatMap encLE)) (hD : DRead D l) (hn : l.map (·.e) = ents s.log.length new)
    (hl : s.log.length - s.snap + new.length ≤ 65536) (hd : ∀ e ∈ new, e.data.length ≤ 140737488351232) :
    Fn Tryz.prog 104 [pt p, .slice A l.length cp].toArray [Nb true p c h s x, Lg h.lA h.ln h.lc s.snap (s.log.drop s.snap), X, D]
    (fun v M => v = .tuple #[] ∧ ∃ A' c', M = [Nb true p c { h with lA := A', lc := c', ln := h.ln + new.length } (upN s new) { x with from_ := fj x.from_ s.log.length new },
      Lg A' (h.ln + new.length) c' s.snap ((s.log ++ new).drop s.snap), X, D]) := by
  have hf := hs.fin
  have hln := hs.ln
  have hll := les_len hn
  have hdat : ∀ y ∈ l, y.e.data.length ≤ 140737488351232 := fun y hy => by
    obtain ⟨k, hk⟩ := List.mem_iff_getElem?.1 hy
    obtain ⟨en, h1, h2⟩ := les_at hn hk
    rw [h2]; exact hd en (List.mem_of_getElem? h1)
  have hdr : (s.log ++ new).drop s.snap = s.log.drop s.snap ++ new := by rw [List.drop_append_of_le_length (by omega)]
  rw [hdr]
  refine Fn.enter Tryz.func104 rfl (by kernel_rfl) rfl ?_
  cases new with
  | nil =>
    have : l = [] := by simpa [ents] using hn
    subst this
    refine run ?_
    rw [List.append_nil]
    exact .retE Tryz.func104 ⟨rfl, h.lA, h.lc, rfl⟩
  | cons e0 new =>
    rw [List.length_cons] at hll hl ⊢
    refine run ?_
    refine .callQ (end_q hs) ?_
    refine run ?_
    refine .callD (turned_ok (i := s.log.length + 1)) ?_
    refine run ?_
    refine .ent (Picks.ent (a := [Lg h.lA h.ln h.lc s.snap (s.log.drop s.snap)]) picks) ?_
    refine .lg fun les hles => ?_
    have hlen := les_len hles
    rw [List.length_drop] at hlen
    refine W.plan [1006] mixed (by rfl) (by kernel_rfl) ?_
    refine run ?_
    refine .callN (copied_n (A := A) (c := cp) (l := l) (by omega) hdat) (.trans (Picks.sub (a := [X, D]) picks) ((Ent.of hX).trans (.cons _ (.of hD)))) ?_
    rintro v N ⟨l', A', c', rfl, h2, rfl⟩
    have hl' : l'.length = l.length := by have := congrArg List.length h2; simpa using this
    refine run ?_
    refine .push (sz := 3) (m := l'.length) (Src.pick rfl rfl .hd .gr (flat_len lenLE _) rfl (allLE l')) fun A3 c3 => ?_
    refine run ?_
    rw [hl', hll, ← List.flatMap_append]
    refine .ent ((Picks.ent (a := [Gr 3 67 A3 (h.ln + (new.length + 1)) c3 ((les ++ l').flatMap encLE), Gs les, Gs l']) picks).trans (.cons _ Gs.app)) ?_
    refine .ent (Lg.close (i := s.snap) (l := s.log.drop s.snap ++ e0 :: new) (by
      rw [List.map_append, ents_app, hles, h2, hn, List.length_drop]; congr 2; omega)) ?_
    exact .doneE Tryz.func104 ⟨rfl, A3, c3, rfl⟩
end
end Go.SL
namespace Go.SL
open Go.Proofs Go.Proofs.YtocogcgnahbpkaaGreat
open Rs (Nd)
set_option maxRecDepth 10000
abbrev nv (n : Nat) : Value := iv n
abbrev uv (_ : Unit) : Value := .bool true
def mi (f : Nat → Nat) (ps : List Nat) : List (Nat × Nat) := ps.map fun p => (p, f p)
def mb (l : List Nat) : List (Nat × Unit) := l.map fun p => (p, ())
abbrev MI (b : Nat) (f : Nat → Nat) (ps : List Nat) : HP := Mp Tryz.prog 3 nv nv b (mi f ps)
abbrev MB (b : Nat) (l : List Nat) : HP := Mp Tryz.prog 3 nv uv b (mb l)
abbrev okN (n : Nat) : Prop := n ≤ 1099511627776
theorem K3 : KeyEnc Tryz.prog 3 nv okN := ⟨Maps.int_keyed Tryz.underlying3, fun x hx => ⟨_, Maps.keyOf_int_mk Tryz.underlying3 (by simp [Lit.wf, IntKind.min, IntKind.max, IntKind.bits, IntKind.signed]; unfold okN at hx; omega)⟩, fun x y h => by injection h with _ h; exact_mod_cast h⟩
theorem kget_mi {f : Nat → Nat} {ps : List Nat} {i : Nat} (h : i ∈ ps) : kget (mi f ps) i = some (f i) := by
  unfold kget mi
  induction ps with
  | nil => cases h
  | cons p ps ih =>
    rw [List.map_cons, List.find?_cons]
    by_cases hp : p = i
    · subst hp; simp
    · simp only [hp, decide_false]
      exact ih (by rcases List.mem_cons.1 h with e | h; · exact absurd e.symm hp
                   · exact h)
theorem kget_mi0 {f : Nat → Nat} {ps : List Nat} {i : Nat} (h : i ∉ ps) : kget (mi f ps) i = none := by
  unfold kget mi
  rw [Option.map_eq_none_iff, List.find?_eq_none]
  intro x hx
  obtain ⟨p, hp, rfl⟩ := List.mem_map.1 hx
  simp only [decide_eq_true_eq]
  rintro rfl; exact h hp
theorem kput_mi {f : Nat → Nat} {ps : List Nat} {i v : Nat} (h : i ∈ ps) : kput (mi f ps) i v = mi (Rs.upd f i v) ps := by
  unfold kput mi
  rw [if_pos (by rw [List.map_map]; exact List.mem_map.2 ⟨i, h, rfl⟩), List.map_map]
  apply List.map_congr_left
  intro p _
  simp only [Function.comp, Rs.upd]
  by_cases hp : p = i
  · subst hp; simp
  · simp [hp]
theorem kput_new {f : Nat → Nat} {ps : List Nat} {i v : Nat} (h : i ∉ ps) (hf : f i = v) : kput (mi f ps) i v = mi f (ps ++ [i]) := by
  unfold kput mi
  rw [if_neg (by rw [List.map_map]; intro hm; obtain ⟨j, hj, rfl⟩ := List.mem_map.1 hm; exact h hj), List.map_append]
  simp [hf]
theorem mb_mem {l : List Nat} {i : Nat} : i ∈ (mb l).map (·.1) ↔ i ∈ l := by unfold mb; rw [List.map_map]; exact ⟨fun h => by obtain ⟨j, hj, rfl⟩ := List.mem_map.1 h; exact hj, fun h => List.mem_map.2 ⟨i, h, rfl⟩⟩
theorem kput_mb {l : List Nat} {i : Nat} : kput (mb l) i () = mb (Rs.put l i) := by
  unfold kput Rs.put
  simp only [mb_mem]
  split
  · unfold mb; rw [List.map_map]; apply List.map_congr_left; intro p _; simp only [Function.comp]; split <;> simp_all
  · unfold mb; rw [List.map_append]; rfl
theorem kdel_mb {l : List Nat} {i : Nat} : kdel (mb l) i = mb (l.filter (· ≠ i)) := by
  unfold kdel mb; rw [List.filter_map]; rfl
theorem kget_mb {l : List Nat} {i : Nat} : kget (mb l) i = if i ∈ l then some () else none := by
  unfold kget mb
  induction l with
  | nil => rfl
  | cons p ps ih =>
    rw [List.map_cons, List.find?_cons]
    by_cases hp : p = i
    · subst hp; simp
    · simp only [hp, decide_false, ih, List.mem_cons]
      simp [Ne.symm hp]
theorem mb_len {l : List Nat} : (mb l).length = l.length := by unfold mb; simp
section
variable {P : Program} {n : Nat} {E : Env} {L L' : List HP} {o : Oper} {x y u : Operand} [Tab P] {k : TypeId} {α β : Type} [DecidableEq α] {kenc : α → Value} {venc : β → Value} {ok : α → Prop} {b t ev' : Nat} {l : List (α × β)} {r : Row}
theorem O.insert (K : KeyEnc P k kenc ok) {i : α} {v : β} (ho : o.op = .insert t x y u) (ht : ty P t = some r) (hd : r.d = .map k ev') (hx : ev E x = some (.map (some b))) (hy : ev E y = some (kenc i)) (hu : ev E u = some (venc v)) (hi : ok i)
    (hp : Pick (Mp P k kenc venc b l) L L') : OpS P n E L o (Det undef (Mp P k kenc venc b (kput l i v) :: L')) := .run0 fun F w a h1 h2 => by
  have hs := h2.ent hp.entF
  obtain ⟨w', g1, g2, g3, g4⟩ := hs.mp.put K (ty_map ht hd) i hi v
  refine ⟨w', ?_, hs.putMp g2 g3 g4⟩
  unfold execOp; rw [ho]
  simp [h1.eval hx, h1.eval hy, h1.eval hu, g1]
theorem RS.insMap {rest : List Oper} {ops : Array Oper} {C : Env → List HP → Prop} (K : KeyEnc P k kenc ok) (i : α) (w : β) (hi : ok i) (hn : RS P n ops rest C E (Mp P k kenc venc b (kput l i w) :: L')) (ho : o.op = .insert t x y u := by exact rfl) (ht : ty P t = some r := by exact rfl) (hd : r.d = .map k ev' := by exact rfl) (hx : ev E x = some (.map (some b)) := by exact rfl) (hy : ev E y = some (kenc i) := by exact rfl) (hu : ev E u = some (venc w) := by exact rfl)
    (hp : Pick (Mp P k kenc venc b l) L L' := by exact pick) (hg : o.guard = none := by exact rfl) (hdd : o.dst = none := by exact rfl) : RS P n ops (o :: rest) C E L :=
  .det0 hg hdd (O.insert K ho ht hd hx hy hu hi hp) hn
end
section
variable {n : Nat} {E : Env} {L L' : List HP} {o : Oper} {x y u : Operand} {b t ev' i d v j : Nat} {r : Row} {rest : List Oper} {ops : Array Oper} {C : Env → List HP → Prop} {f : Nat → Nat} {l ps : List Nat} {qs : List Nat} {T : List HP} {pl : Pl}
theorem RS.putB (i : Nat) (hi : okN i) (hn : RS Tryz.prog n ops rest C E (MB b (Rs.put l i) :: L')) (ho : o.op = .mapUpdate t x y u := by exact rfl) (ht : ty Tryz.prog t = some r := by exact rfl) (hd : r.d = .map 3 ev' := by exact rfl) (hx : ev E x = some (.map (some b)) := by exact rfl) (hy : ev E y = some (nv i) := by exact rfl) (hu : ev E u = some (.bool true) := by exact rfl)
    (hp : Pick (MB b l) L L' := by exact pick) (hg : o.guard = none := by exact rfl) (hdd : o.dst = none := by exact rfl) : RS Tryz.prog n ops (o :: rest) C E L :=
  .putMap (venc := uv) K3 i () hi (by rw [kput_mb]; exact hn) ho ht hd hx hy hu hp hg hdd
theorem RS.insB (i : Nat) (hi : okN i) (hn : RS Tryz.prog n ops rest C E (MB b (Rs.put l i) :: L')) (ho : o.op = .insert t x y u := by exact rfl) (ht : ty Tryz.prog t = some r := by exact rfl) (hd : r.d = .map 3 ev' := by exact rfl) (hx : ev E x = some (.map (some b)) := by exact rfl) (hy : ev E y = some (nv i) := by exact rfl) (hu : ev E u = some (.bool true) := by exact rfl)
    (hp : Pick (MB b l) L L' := by exact pick) (hg : o.guard = none := by exact rfl) (hdd : o.dst = none := by exact rfl) : RS Tryz.prog n ops (o :: rest) C E L :=
  .insMap (venc := uv) K3 i () hi (by rw [kput_mb]; exact hn) ho ht hd hx hy hu hp hg hdd
theorem RS.putI (i v : Nat) (hi : okN i) (hm : i ∈ ps) (hn : RS Tryz.prog n ops rest C E (MI b (Rs.upd f i v) ps :: L')) (ho : o.op = .mapUpdate t x y u := by exact rfl) (ht : ty Tryz.prog t = some r := by exact rfl) (hd : r.d = .map 3 ev' := by exact rfl) (hx : ev E x = some (.map (some b)) := by exact rfl) (hy : ev E y = some (nv i) := by exact rfl) (hu : ev E u = some (nv v) := by exact rfl)
    (hp : Pick (MI b f ps) L L' := by exact pick) (hg : o.guard = none := by exact rfl) (hdd : o.dst = none := by exact rfl) : RS Tryz.prog n ops (o :: rest) C E L :=
  .putMap (venc := nv) K3 i v hi (by rw [kput_mi hm]; exact hn) ho ht hd hx hy hu hp hg hdd
theorem RS.delB (i : Nat) (hi : okN i) (hn : RS Tryz.prog n ops rest C E (MB b (l.filter (· ≠ i)) :: L')) (ho : o.op = .call ⟨.builtin .delete, #[x, y], #[t, 3]⟩ := by exact rfl) (ht : ty Tryz.prog t = some r := by exact rfl) (hd : r.d = .map 3 ev' := by exact rfl) (hx : ev E x = some (.map (some b)) := by exact rfl) (hy : ev E y = some (nv i) := by exact rfl)
    (hp : Pick (MB b l) L L' := by exact pick) (hg : o.guard = none := by exact rfl) (hdd : o.dst = none := by exact rfl) : RS Tryz.prog n ops (o :: rest) C E L :=
  .det0 hg hdd (O.delete (kenc := nv) (venc := uv) K3 (i := i) ho ht hd hx hy hi hp) (by rw [kdel_mb]; exact hn)
theorem RS.lookI (i : Nat) (hi : okN i) (hm : i ∈ ps) (hn : RS Tryz.prog n ops rest C ((d, nv (f i)) :: E) L) (ho : o.op = .lookup t x y false := by exact rfl) (ht : ty Tryz.prog t = some r := by exact rfl) (hd : r.d = .map 3 3 := by exact rfl) (hx : ev E x = some (.map (some b)) := by exact rfl) (hy : ev E y = some (nv i) := by exact rfl)
    (hp : Pick (MI b f ps) L L' := by exact pick) (hg : o.guard = none := by exact rfl) (hdd : o.dst = some d := by exact rfl) (hf : Nat.blt d n = true := by exact rfl) : RS Tryz.prog n ops (o :: rest) C E L :=
  .look (venc := nv) K3 i hi zero3 (by rw [kget_mi hm]) hn ho ht hd hx hy hp hg hdd hf
theorem RS.lookB (i : Nat) (hi : okN i) (hn : RS Tryz.prog n ops rest C ((d, .bool (decide (i ∈ l))) :: E) L) (ho : o.op = .lookup t x y false := by exact rfl) (ht : ty Tryz.prog t = some r := by exact rfl) (hd : r.d = .map 3 4 := by exact rfl) (hx : ev E x = some (.map (some b)) := by exact rfl) (hy : ev E y = some (nv i) := by exact rfl)
    (hp : Pick (MB b l) L L' := by exact pick) (hg : o.guard = none := by exact rfl) (hdd : o.dst = some d := by exact rfl) (hf : Nat.blt d n = true := by exact rfl) : RS Tryz.prog n ops (o :: rest) C E L :=
  .look (venc := uv) K3 i hi zero4 (by rw [kget_mb]; by_cases h : i ∈ l <;> simp [h]) hn ho ht hd hx hy hp hg hdd hf
theorem RG.lookI (i : Nat) (hi : okN i) (hm : i ∈ ps) (hn : RG Tryz.prog n qs T ops pl C ((d, nv (f i)) :: E) L) (hj : ops[j]? = some o := by exact rfl) (ho : o.op = .lookup t x y false := by exact rfl) (ht : ty Tryz.prog t = some r := by exact rfl) (hd : r.d = .map 3 3 := by exact rfl) (hx : ev E x = some (.map (some b)) := by exact rfl) (hy : ev E y = some (nv i) := by exact rfl)
    (hp : Pick (MI b f ps) L L' := by exact pick) (hg : wn ops E o = some true := by exact rfl) (hdd : o.dst = some d := by exact rfl) (hf : Nat.blt d n = true := by exact rfl) (hm : isMem o.op = true := by exact rfl) (hT : isT qs j = false := by exact rfl) : RG Tryz.prog n qs T ops (.q j pl) C E L :=
  .look (venc := nv) K3 i hi zero3 (by rw [kget_mi (by assumption)]) hn hj ho ht hd hx hy hp hg hdd hf hm hT
theorem RS.lenB (hn : RS Tryz.prog n ops rest C ((d, nv l.length) :: E) L) (ho : o.op = .call ⟨.builtin .len, #[x], #[t]⟩ := by exact rfl) (ht : ty Tryz.prog t = some r := by exact rfl) (hd : r.d = .map 3 ev' := by exact rfl) (hx : ev E x = some (.map (some b)) := by exact rfl)
    (hp : Pick (MB b l) L L' := by exact pick) (hg : o.guard = none := by exact rfl) (hdd : o.dst = some d := by exact rfl) (hf : Nat.blt d n = true := by exact rfl) : RS Tryz.prog n ops (o :: rest) C E L :=
  .quiet hg hdd hf (by have := Q.lenM (P := Tryz.prog) (n := n) (E := E) ho ht hd hx hp; rwa [mb_len] at this) hn
theorem RS.clearB (hn : RS Tryz.prog n ops rest C E (MB b [] :: L')) (ho : o.op = .call ⟨.builtin .clear, #[x], #[t]⟩ := by exact rfl) (ht : ty Tryz.prog t = some r := by exact rfl) (hd : r.d = .map 3 ev' := by exact rfl) (hx : ev E x = some (.map (some b)) := by exact rfl)
    (hp : Pick (MB b l) L L' := by exact pick) (hg : o.guard = none := by exact rfl) (hdd : o.dst = none := by exact rfl) : RS Tryz.prog n ops (o :: rest) C E L :=
  .det0 hg hdd (O.clear ho ht hd hx hp) hn
theorem RG.putB (i : Nat) (hi : okN i) (hn : RG Tryz.prog n qs T ops pl C E (MB b (Rs.put l i) :: L')) (hj : ops[j]? = some o := by exact rfl) (ho : o.op = .mapUpdate t x y u := by exact rfl) (ht : ty Tryz.prog t = some r := by exact rfl) (hd : r.d = .map 3 ev' := by exact rfl) (hx : ev E x = some (.map (some b)) := by exact rfl) (hy : ev E y = some (nv i) := by exact rfl) (hu : ev E u = some (.bool true) := by exact rfl)
    (hp : Pick (MB b l) L L' := by exact pick) (hg : wn ops E o = some true := by exact rfl) (hdd : o.dst = none := by exact rfl) (hq : isQK qs ops j = false := by exact rfl) : RG Tryz.prog n qs T ops (.a j pl) C E L :=
  .putMap (venc := uv) K3 i () hi (by rw [kput_mb]; exact hn) hj ho ht hd hx hy hu hp hg hdd hq
theorem RG.putI (i v : Nat) (hi : okN i) (hm : i ∈ ps) (hn : RG Tryz.prog n qs T ops pl C E (MI b (Rs.upd f i v) ps :: L')) (hj : ops[j]? = some o := by exact rfl) (ho : o.op = .mapUpdate t x y u := by exact rfl) (ht : ty Tryz.prog t = some r := by exact rfl) (hd : r.d = .map 3 ev' := by exact rfl) (hx : ev E x = some (.map (some b)) := by exact rfl) (hy : ev E y = some (nv i) := by exact rfl) (hu : ev E u = some (nv v) := by exact rfl)
    (hp : Pick (MI b f ps) L L' := by exact pick) (hg : wn ops E o = some true := by exact rfl) (hdd : o.dst = none := by exact rfl) (hq : isQK qs ops j = false := by exact rfl) : RG Tryz.prog n qs T ops (.a j pl) C E L :=
  .putMap (venc := nv) K3 i v hi (by rw [kput_mi hm]; exact hn) hj ho ht hd hx hy hu hp hg hdd hq
theorem RG.delB (i : Nat) (hi : okN i) (hn : RG Tryz.prog n qs T ops pl C E (MB b (l.filter (· ≠ i)) :: L')) (hj : ops[j]? = some o := by exact rfl) (ho : o.op = .call ⟨.builtin .delete, #[x, y], #[t, 3]⟩ := by exact rfl) (ht : ty Tryz.prog t = some r := by exact rfl) (hd : r.d = .map 3 ev' := by exact rfl) (hx : ev E x = some (.map (some b)) := by exact rfl) (hy : ev E y = some (nv i) := by exact rfl)
    (hp : Pick (MB b l) L L' := by exact pick) (hg : wn ops E o = some true := by exact rfl) (hdd : o.dst = none := by exact rfl) (hq : isQK qs ops j = false := by exact rfl) : RG Tryz.prog n qs T ops (.a j pl) C E L :=
  .det0 hj hg hdd (O.delete (kenc := nv) (venc := uv) K3 (i := i) ho ht hd hx hy hi hp) (by rw [kdel_mb]; exact hn) hq
theorem RG.lookB (i : Nat) (hi : okN i) (hn : RG Tryz.prog n qs T ops pl C ((d, .bool (decide (i ∈ l))) :: E) L) (hj : ops[j]? = some o := by exact rfl) (ho : o.op = .lookup t x y false := by exact rfl) (ht : ty Tryz.prog t = some r := by exact rfl) (hd : r.d = .map 3 4 := by exact rfl) (hx : ev E x = some (.map (some b)) := by exact rfl) (hy : ev E y = some (nv i) := by exact rfl)
    (hp : Pick (MB b l) L L' := by exact pick) (hg : wn ops E o = some true := by exact rfl) (hdd : o.dst = some d := by exact rfl) (hf : Nat.blt d n = true := by exact rfl) (hm : isMem o.op = true := by exact rfl) (hT : isT qs j = false := by exact rfl) : RG Tryz.prog n qs T ops (.q j pl) C E L :=
  .look (venc := uv) K3 i hi zero4 (by rw [kget_mb]; by_cases h : i ∈ l <;> simp [h]) hn hj ho ht hd hx hy hp hg hdd hf hm hT
end
end Go.SL
