/-
  A part of the proof of what E53 says at its head.
-/
import Derived.Test.YtocogcgnahbpkaaGreatE27
import Derived.Test.YtocogcgnahbpkaaGreatE33
namespace Go.SL
open Go.RowKit
def Sl {α : Type} (f : α → HP) : List α → HP
  | [] => fun _ => True
  | x :: l => Stars [f x, Sl f l]
section
variable {α : Type} {f g : α → HP} {L : List HP} {x : α}
theorem Sl.nil : Ent L (Sl f [] :: L) := fun r h => ⟨fun _ => none, r, fun _ _ _ h => (nomatch h), .refl r, fun _ _ _ _ _ h => (nomatch h), trivial, h⟩
theorem Sl.cons {l : List α} : Ent (f x :: Sl f l :: L) (Sl f (x :: l) :: L) := Ent.unstar (l := [_, _])
theorem Sl.uncons {l : List α} : Ent (Sl f (x :: l) :: L) (f x :: Sl f l :: L) := Ent.star (l := [_, _])
theorem Sl.snoc : ∀ {l : List α} {L : List HP}, Ent (f x :: Sl f l :: L) (Sl f (l ++ [x]) :: L)
  | [], _ => Sl.cons
  | y :: l, L => (Ent.perm (.swap _ _ _)).trans (Sl.uncons.trans ((Ent.cons _ ((Ent.perm (.swap _ _ _)).trans (Sl.snoc (l := l)))).trans Sl.cons))
theorem Sl.out : ∀ {l : List α} {i : Nat} {L : List HP}, l[i]? = some x → Ent (Sl f l :: L) (f x :: Sl f (l.eraseIdx i) :: L)
  | [], _, _, h => by simp at h
  | y :: l, 0, L, h => by simp at h; subst h; exact Sl.uncons
  | y :: l, i + 1, L, h => by
    refine Sl.uncons.trans ((Ent.cons _ (Sl.out (l := l) (i := i) (by simpa using h))).trans ((Ent.perm (.swap _ _ _)).trans (.cons _ ?_)))
    exact Sl.cons
theorem Sl.back : ∀ {l : List α} {i : Nat} {L : List HP}, l[i]? = some x → Ent (f x :: Sl f (l.eraseIdx i) :: L) (Sl f l :: L)
  | [], _, _, h => by simp at h
  | y :: l, 0, L, h => by simp at h; subst h; exact Sl.cons
  | y :: l, i + 1, L, h => by
    refine Ent.trans (Ent.cons _ Sl.uncons) ((Ent.perm (.swap _ _ _)).trans ((Ent.cons _ (Sl.back (l := l) (i := i) (by simpa using h))).trans Sl.cons))
theorem Sl.congr {l : List α} (h : ∀ y ∈ l, f y = g y) : Sl f l = Sl g l := by
  induction l with
  | nil => rfl
  | cons y l ih => unfold Sl; rw [h y (List.mem_cons_self ..), ih fun z hz => h z (List.mem_cons_of_mem _ hz)]
theorem Sl.mono {l : List α} (h : ∀ y ∈ l, ∀ r, f y r → g y r) : ∀ r, Sl f l r → Sl g l r := by
  induction l with
  | nil => exact fun _ h => h
  | cons y l ih => exact fun r ⟨r1, r2, a, b, c, d, s1, s2, a', b', c', d', t⟩ => ⟨r1, r2, a, b, c, h y (List.mem_cons_self ..) r1 d, s1, s2, a', b', c', ih (fun z hz => h z (List.mem_cons_of_mem _ hz)) s1 d', t⟩
theorem Sl.at {l : List α} {y : α} (hy : y ∈ l) {r : Res} (h : Sl f l r) : ∃ r', Res.le r' r ∧ f y r' := by
  induction l generalizing r with
  | nil => cases hy
  | cons z l ih =>
    obtain ⟨r1, r2, a, b, c, d, s1, s2, a', b', c', d', t⟩ := h
    rcases List.mem_cons.1 hy with rfl | hy
    · exact ⟨r1, a, d⟩
    · obtain ⟨r', h1, h2⟩ := ih hy d'
      exact ⟨r', (h1.trans a').trans b, h2⟩
theorem Sl.excl {l : List α} (h : ∀ y ∈ l, Excl (f y)) : Excl (Sl f l) := by
  induction l with
  | nil => exact fun _ _ => trivial
  | cons y l ih =>
    refine Excl.stars (l := [f y, Sl f l]) fun Q hQ => ?_
    rcases List.mem_cons.1 hQ with rfl | hQ
    · exact h y (List.mem_cons_self ..)
    · rw [List.mem_singleton.1 hQ]; exact ih fun z hz => h z (List.mem_cons_of_mem _ hz)
theorem Sl.map {β : Type} {k : β → α} : ∀ {l : List β}, Sl f (l.map k) = Sl (fun y => f (k y)) l
  | [] => rfl
  | y :: l => by show Stars [f (k y), Sl f (l.map k)] = Stars [f (k y), Sl _ l]; rw [Sl.map (l := l)]
theorem Sl.app : ∀ {l m : List α} {L : List HP}, Ent (Sl f l :: Sl f m :: L) (Sl f (l ++ m) :: L)
  | [], _, _ => Ent.drop _
  | y :: l, m, L => Sl.uncons.trans ((Ent.cons _ Sl.app).trans Sl.cons)
end
def GrX (sz E : Nat) (A : Option Addr) (n c : Nat) : HP := fun r => ∃ cs, Gr sz E A n c cs r
theorem Gr.x {sz E n c : Nat} {A : Option Addr} {cs : List Value} {r : Res} (h : Gr sz E A n c cs r) : GrX sz E A n c r := ⟨cs, h⟩
theorem Rd.front {q : Bool} {A : Option Addr} {cs ds : List Value} {r : Res} (h : Rd q A (cs ++ ds) r) : Rd q A cs r := by
  rcases h with h | ⟨g, off, E, fz, pre, post, h1, h2, h3⟩
  · exact .inl (List.append_eq_nil_iff.1 h).1
  · exact .inr ⟨g, off, E, fz, pre, ds ++ post, h1, h2, by simpa [List.append_assoc] using h3⟩
theorem Reads.front {X : HP} {A : Option Addr} {cs ds : List Value} (h : Reads X A (cs ++ ds)) : Reads X A cs := fun r hr => (h r hr).front
theorem Gr.reads {sz E n c : Nat} {A : Option Addr} {cs ds : List Value} : Reads (Gr sz E A n c (cs ++ ds)) A cs := Reads.gr.front
theorem Gr.dropTo {sz E n c k : Nat} {A : Option Addr} {cs : List Value} {r : Res} (h : Gr sz E A n c cs r) (hk : k ≤ n) : Gr sz E (if c = k then A else adr A (k * sz)) (n - k) (c - k) (cs.drop (k * sz)) r := by
  obtain ⟨h1, h2⟩ := h
  have hks : k * sz ≤ n * sz := Nat.mul_le_mul_right _ hk
  refine ⟨by rw [List.length_drop, h1, Nat.sub_mul], ?_⟩
  rcases h2 with ⟨b, d⟩ | ⟨g, pre, junk, a, b, d, e, f⟩
  · exact .inl ⟨by omega, by omega⟩
  · by_cases hc : c = k
    · exact .inl ⟨by omega, by omega⟩
    · rw [if_neg hc]
      refine .inr ⟨g, pre ++ cs.take (k * sz), junk, ?_, by omega, by omega, by rw [e]; congr 1; omega, ?_⟩
      · rw [a]; simp only [adr, Option.map_some, addr_add, List.length_append, List.length_take]
        rw [show min (k * sz) cs.length = k * sz by omega]
      · rw [List.append_assoc pre, List.take_append_drop]; exact f
section
variable {P : Program} [Tab P]
theorem run_appendK {t tx tr E m sz c : Nat} {nn : Nat} {r re : Row} {A : Option Addr} {cs news : List Value} {x : Value} {w : World} {L : List HP} (ht : ty P t = some r) (hd : r.d = .slice E) (hte : ty P E = some re) (hsz : re.size = sz) (hzl : Nat.beq re.zero.length re.size = true) (hs : Sat w (Gr sz E A nn c cs :: L))
    (hsrc : ∀ w' : World, Grows w w' → Src P sz tx x m news w') (h63 : nn + m ≤ maxLen) (hby : (nn + m) * re.bytes ≤ 140737488355328) :
    ∃ A' c' w', (Builtin.append_ #[t, tx] tr #[.slice A nn c, x]).run P w = .ok (.slice A' (nn + m) c') w' ∧ ((A' = A ∧ Sat w' (Gr sz E A' (nn + m) c' (cs ++ news) :: L)) ∨ Sat w' (Gr sz E A' (nn + m) c' (cs ++ news) :: Gr sz E A nn c cs :: L)) := by
  have hs0 := hs
  obtain ⟨T⟩ := ty_is ht
  obtain ⟨TE⟩ := ty_is hte
  have hu : P.underlying t = some (.slice E) := by rw [← T.slice hd]; exact T.under
  have hS := hsrc w (.refl w)
  have hszE : TE.i.size = sz := by rw [TE.size, hsz]
  obtain ⟨q, hq, r1, r2, p1, p2, p3, ⟨hcl, hgr⟩, p4⟩ := hs
  have hlen : (cs ++ news).length = (nn + m) * sz := by rw [List.length_append, hcl, hS.newsLen, Nat.add_mul]
  have h63' : ((nn + m : Nat) : Int) ≤ 9223372036854775807 := by simp only [maxLen] at h63; omega
  by_cases hroom : nn + m ≤ c
  · rcases hgr with ⟨rfl, rfl⟩ | ⟨g, pre, junk, rfl, hnc, hcm, hj, hown⟩
    · obtain rfl : m = 0 := by omega
      have hc0 := List.eq_nil_of_length_eq_zero (by simpa using hcl)
      have hn0 := List.eq_nil_of_length_eq_zero (by simpa using hS.newsLen)
      subst hc0; subst hn0
      refine ⟨A, 0, w, ?_, .inl ⟨rfl, q, hq, r1, r2, p1, p2, p3, ⟨by simp, .inl ⟨rfl, rfl⟩⟩, p4⟩⟩
      have h1 := hS.len w
      have h2 := hS.cells
      cases A <;> rcases hS.kind with ⟨e', hk⟩ | hk <;> simp [Builtin.append_, run_underlying hu, run_underlying hk, sizeOf, typeInfo, TE.info, h1, h2, hszE, storeCells]
    · have hsat : Sat w (Blk true g (pre ++ cs ++ junk) E :: L) := ⟨q, hq, r1, r2, p1, p2, p3, hown, p4⟩
      have hpc : (pre ++ cs).length = pre.length + nn * sz := by rw [List.length_append, hcl]
      obtain ⟨w', cs', h1, h2, h3, h4⟩ := run_storeCells (P := P) (off := pre.length + nn * sz) (vs := news) 0 hsat (fun u hu => by
          have := hS.one u hu
          cases u <;> simp_all [isOne, Value.oneCell'])
        (by rw [List.length_append, hpc, hj, hS.newsLen]; have : nn * sz + m * sz ≤ nn * sz + (c - nn) * sz := Nat.add_le_add_left (Nat.mul_le_mul_right _ (by omega)) _; omega)
      have hle : pre.length + nn * sz + news.length ≤ (pre ++ cs ++ junk).length := by
        rw [List.length_append, hpc, hj, hS.newsLen]; have : nn * sz + m * sz ≤ nn * sz + (c - nn) * sz := Nat.add_le_add_left (Nat.mul_le_mul_right _ (by omega)) _; omega
      have e1 : cs' = pre ++ (cs ++ news) ++ junk.drop news.length := by
        rw [ext_cells (off := pre.length + nn * sz) h3 (by simpa using h4) hle, ← hpc, List.take_left, ← List.drop_drop, List.drop_left, List.append_assoc pre cs news]
      refine ⟨some ⟨g, pre.length, none⟩, c, w', ?_, .inl ⟨rfl, ?_⟩⟩
      · have h5 := hS.len w
        have h6 := hS.cells
        rcases hS.kind with ⟨e', hk⟩ | hk <;> simp [Builtin.append_, run_underlying hu, run_underlying hk, sizeOf, typeInfo, TE.info, h5, h6, hszE, hroom, addr_add, h1]
      · rw [e1] at h2
        obtain ⟨q', a1, a2, a3, a4, a5, a6, a7, a8⟩ := h2
        exact ⟨q', a1, a2, a3, a4, a5, a6, ⟨hlen, .inr ⟨g, pre, _, rfl, hroom, hcm, by rw [List.length_drop, hj, hS.newsLen, ← Nat.sub_mul]; congr 1; omega, a7⟩⟩, a8⟩
  · have hS' := hsrc w (.refl w)
    have holds : (Builtin.firstCells TE.i.size nn (.slice A nn c)).run P w.drew = .ok cs.toArray w.drew := by
      rcases hgr with ⟨rfl, rfl⟩ | ⟨g, pre, junk, rfl, hnc, hcm, hj, hown⟩
      · have hc0 := List.eq_nil_of_length_eq_zero (by simpa using hcl)
        subst hc0
        cases A with
        | none => exact run_firstCells_none (w := w.drew) TE.i.size 0 0 0
        | some a => exact run_firstCells_some (w := w.drew) TE.i.size 0 a 0 0 [] (by simp) fun j u hu => by simp at hu
      · refine run_firstCells_some (w := w.drew) TE.i.size nn ⟨g, pre.length, none⟩ nn c cs (by rw [hszE]; exact hcl) fun j u hu => ?_
        have hb : w.heap[g]? = some (.cells (pre ++ cs ++ junk).toArray E (0, 0)) := Sat.own (q := true) (l := L) ⟨q, hq, r1, r2, p1, p2, p3, hown, p4⟩
        rw [addr_add]
        show w.cell? _ = _
        have hjl := (List.getElem?_eq_some_iff.1 hu).1
        rw [cell_own (q := true) hb, List.append_assoc, List.getElem?_append_right (by omega), Nat.add_sub_cancel_left, List.getElem?_append_left hjl]; exact hu
    have hr := run_append_grow_src (P := P) w t tx tr E TE.i TE.z hu TE.info TE.zero A nn c cs holds x m news (by rw [hszE]; exact hS') (by omega) h63' (growslice_fits (by omega) (by rw [TE.bytes]; exact hby))
    have hge := grownCap_ge w (nn + m) c E
    refine ⟨_, _, _, hr, .inr ?_⟩
    have h2 := (hs0.grows (w' := w.drew) (.same rfl)).alloc (o := .cells ((cs ++ news).toArray ++ Builtin.zeroCells TE.z.cells (grownCap w (nn + m) c E - (nn + m))) E (0, 0))
    obtain ⟨q', a1, a2, a3, a4, a5, a6, a7, a8⟩ := h2
    refine ⟨q', a1, a2, a3, a4, a5, a6, ⟨hlen, .inr ⟨w.heap.size, [], (Builtin.zeroCells TE.z.cells (grownCap w (nn + m) c E - (nn + m))).toList, rfl, hge, grownCap_le_maxLen w (nn + m) c E h63, ?_, ?_⟩⟩, a8⟩
    · rw [Array.length_toList, size_zeroCells, ← hsz, TE.cells, List.size_toArray, Nat.eq_of_beq_eq_true hzl]
    · have e2 : ((cs ++ news).toArray ++ Builtin.zeroCells TE.z.cells (grownCap w (nn + m) c E - (nn + m))) = (cs ++ news ++ (Builtin.zeroCells TE.z.cells (grownCap w (nn + m) c E - (nn + m))).toList).toArray := by simp
      rw [List.nil_append, ← e2]; exact a7
end
theorem O.appendK {P : Program} [Tab P] {n : Nat} {e : Env} {L L' : List HP} {o : Oper} {x : Operand} {A : Option Addr} {cs : List Value} {s : Operand} {t tx E m c sz nn : Nat} {r re : Row} {news : List Value} {xv : Value} (ho : o.op = .call ⟨.builtin .append, #[s, x], #[t, tx]⟩) (ht : ty P t = some r) (hd : r.d = .slice E) (hte : ty P E = some re) (hsz : re.size = sz) (hzl : Nat.beq re.zero.length re.size = true)
    (hs : ev e s = some (.slice A nn c)) (hx : ev e x = some xv) (hp : Pick (Gr sz E A nn c cs) L L') (hsrc : ∀ w, Sat w L' → Src P sz tx xv m news w) (h63 : nn + m ≤ maxLen) (hby : (nn + m) * re.bytes ≤ 140737488355328) :
    OpS P n e L o fun v M => ∃ A' c', v = .slice A' (nn + m) c' ∧ ((A' = A ∧ M = Gr sz E A' (nn + m) c' (cs ++ news) :: L') ∨ M = Gr sz E A' (nn + m) c' (cs ++ news) :: Gr sz E A nn c cs :: L') := .run fun F w a h1 h2 => by
  have h3 := h2.ent hp.entF
  have h4 : Sat w L' := (h3.ent (.drop _)).fst
  obtain ⟨A', c', w', hr, hs'⟩ := run_appendK (x := xv) (tr := o.type) ht hd hte hsz hzl h3 (fun w' hg => hsrc w' (h4.grows hg)) h63 hby
  have hrun : (execOp a.eval o).run P w = .ok (.value (.slice A' (nn + m) c')) w' := by
    unfold execOp; rw [ho]
    simp [resolve, h1.eval hs, h1.eval hx, invoke, builtin, hr]
  rcases hs' with ⟨rfl, hs'⟩ | hs'
  · exact ⟨_, w', _, hrun, ⟨A', c', rfl, .inl ⟨rfl, rfl⟩⟩, hs'⟩
  · exact ⟨_, w', _, hrun, ⟨A', c', rfl, .inr rfl⟩, hs'⟩
theorem RS.pushK {P : Program} [Tab P] {n : Nat} {e : Env} {L L' : List HP} {o : Oper} {rest : List Oper} {C : Env → List HP → Prop} {ops : Array Oper} {d : Nat} {x : Operand} {A : Option Addr} {cs : List Value} {s : Operand} {t tx E m c sz nn : Nat} {r re : Row} {news : List Value} {xv : Value} (hsrc : ∀ w, Sat w L' → Src P sz tx xv m news w)
    (hn : ∀ A' c' M, ((A' = A ∧ M = Gr sz E A' (nn + m) c' (cs ++ news) :: L') ∨ M = Gr sz E A' (nn + m) c' (cs ++ news) :: Gr sz E A nn c cs :: L') → RS P n ops rest C ((d, .slice A' (nn + m) c') :: e) M)
    (ho : o.op = .call ⟨.builtin .append, #[s, x], #[t, tx]⟩ := by exact rfl) (ht : ty P t = some r := by exact rfl) (hd : r.d = .slice E := by exact rfl) (hte : ty P E = some re := by exact rfl) (hsz : re.size = sz := by exact rfl) (hzl : Nat.beq re.zero.length re.size = true := by exact rfl)
    (hs : ev e s = some (.slice A nn c) := by exact rfl) (hx : ev e x = some xv := by exact rfl) (hp : Pick (Gr sz E A nn c cs) L L' := by exact pick) (hg : o.guard = none := by exact rfl) (hdd : o.dst = some d := by exact rfl) (hf : Nat.blt d n = true := by exact rfl) (h63 : nn + m ≤ maxLen := by unfold maxLen; omega) (hby : (nn + m) * re.bytes ≤ 140737488355328 := by dsimp only; omega) : RS P n ops (o :: rest) C e L :=
  .any hg hdd hf (O.appendK ho ht hd hte hsz hzl hs hx hp hsrc h63 hby) fun v M ⟨A', c', h1, h2⟩ => by rw [h1]; exact hn A' c' M h2
theorem Q.quo {P : Program} {n : Nat} {e : Env} {S : List HP} {o : Oper} {x y : Operand} {t t' : Nat} {a b : Int} (ho : o.op = .binOp .quo t x y t') (hx : ev e x = some (.int .i64 a)) (hy : ev e y = some (.int .i64 b)) (h0 : b ≠ 0) : QOp P n e S o (.int .i64 (IntKind.i64.wrap (a.tdiv b))) :=
  Q.bin ho hx hy eqg_int fun w => by simp [binOp, Op.intDiv, h0]
end Go.SL
namespace Go.SL
open Go.Proofs Go.Proofs.YtocogcgnahbpkaaGreat
open Rs (Nd)
set_option maxRecDepth 10000
def T5 : List Int := [201, 202, 203, 204, 205]
def vW (y : LB) : Value := .slice y.A (y.data.length + 5) y.c
def Wb (y : LB) : HP := Gr 1 5 y.A (y.data.length + 5) y.c ((y.data ++ T5).map bc)
def toB (x : LE) : LB := ⟨x.e.data, x.A, x.c⟩
theorem Wb.reads {y : LB} : Reads (Wb y) y.A (y.data.map bc) := fun r h => by unfold Wb at h; rw [List.map_append] at h; exact Gr.reads r h
attribute [local irreducible] W RS RG RT RD Fn FnQ OpS QOp Own Sat Rd Gr Mp Rg Lg Ms Es Nod Rp NodI RLg RMs REs RN RLd RNF EsD MsD
section
variable {c : Cfg} {s s' : Nd} {X Y D : HP} {A B : Option Addr} {cp cq : Nat}
theorem part_ok {l : List Int} (hX : Reads X A (l.map bc)) (hl : l.length ≤ 140737488351232) : Fn Tryz.prog 67 [.slice A l.length cp].toArray [X] (fun v L => ∃ A' c', v = .slice A' l.length c' ∧ L = [Gr 1 5 A' l.length c' (l.map bc), X]) := by
  refine Fn.enter Tryz.func67 rfl (by kernel_rfl) rfl ?_
  refine run ?_
  refine .ent (Ent.mk (X := Gr 1 5 none 0 0 []) fun r => .nil) ?_
  refine .push (sz := 1) (nn := 0) (m := l.length) (Src.pick rfl rfl .hd hX (by simp) rfl (allBc _)) fun A1 c1 => ?_
  simp only [Nat.zero_add, List.nil_append]
  refine run ?_
  exact .retE Tryz.func67 ⟨A1, c1, rfl, rfl⟩
theorem part_n {l : List Int} (hl : l.length ≤ 140737488351232) : FnN Tryz.prog 67 [.slice A l.length cp].toArray [Rd false A (l.map bc)] (fun v L => ∃ A' c', v = .slice A' l.length c' ∧ L = [Gr 1 5 A' l.length c' (l.map bc)]) := by
  refine Fn.new ((part_ok (X := Rd false A (l.map bc)) .rd hl).mono ?_) ?_
  · rintro v M ⟨A', c', rfl, rfl⟩
    refine ⟨_, .refl _, [Gr 1 5 A' l.length c' (l.map bc)], rfl, ⟨A', c', rfl, rfl⟩, fun Q hQ => ?_⟩
    rw [List.mem_singleton.1 hQ]; exact Gr.excl
  · intro Q hQ
    rw [List.mem_singleton.1 hQ]; exact Rd.pers
theorem wide_ok {l : List Int} (hX : Reads X A (l.map bc)) (hl : l.length ≤ 140737488351232) : Fn Tryz.prog 50 [.slice A l.length cp].toArray [X] (fun v L => ∃ A' c', v = .tuple #[.slice A' l.length c', .slice A' (l.length + 5) c'] ∧ L = [Wb ⟨l, A', c'⟩, X]) := by
  refine Fn.enter Tryz.func50 rfl (by kernel_rfl) rfl ?_
  refine run ?_
  refine .callE (part_ok hX (by omega)) ?_
  rintro v L ⟨A', c', rfl, rfl⟩
  refine run ?_
  refine .lit fun z => ?_
  refine run ?_
  refine .push (sz := 1) (m := 5) (Src.pick rfl rfl .hd .own rfl rfl rfl) fun A2 c2 => ?_
  refine run ?_
  refine .fact (fun w h => Gr.cap h) fun hcap => ?_
  refine .quiet rfl rfl rfl (Q.sliceTo (hi := l.length) rfl rfl rfl rfl rfl rfl (by omega)) ?_
  refine run ?_
  refine .ent (Ent.of (Y := Wb ⟨l, A2, c2⟩) fun r h => by unfold Wb; rw [List.map_append]; exact h) ?_
  exact .retE Tryz.func50 ⟨A2, c2, rfl, rfl⟩
theorem WL_e {ws : List LE} : (ws.map toB).map vW = ws.map fun x => .slice x.A (x.e.data.length + 5) x.c := by simp [toB, vW]
def Wided (mes : List LE) (X D : HP) : Fin := fun v L => ∃ ws : List LE, ∃ M cM WA wc, ws.map (·.e) = mes.map (·.e) ∧ v = .tuple #[.slice M mes.length cM, .slice WA mes.length wc] ∧
  L = [Gr 3 67 M (mes.length + 1) cM (ws.flatMap encLE ++ [iv (-77), iv 0, .slice none 0 0]), Gr 1 65 WA mes.length wc ((ws.map toB).map vW), Sl Wb (ws.map toB), X, D]
structure WI where
  k : Nat
  ws : List LE
  A : Option Addr
  c : Nat
  B : Option Addr
  d : Nat
theorem wideLog_ok {mes : List LE} (hX : Reads X A (mes.flatMap encLE)) (hD : DRead D mes) (hl : mes.length ≤ 1000000) (hd : ∀ x ∈ mes, x.e.data.length ≤ 140737488351232) : Fn Tryz.prog 49 [.slice A mes.length cp].toArray [X, D] (Wided mes X D) := by
  refine Fn.enter Tryz.func49 rfl (by kernel_rfl) rfl ?_
  refine run ?_
  refine .ent ((Ent.mk (X := Gr 3 67 none 0 0 []) fun r => .nil).trans ((Ent.mk (X := Gr 1 65 none 0 0 []) fun r => .nil).trans (Sl.nil (f := Wb)))) ?_
  refine W.loopH (ι := WI) (fun i => i.k ≤ mes.length ∧ i.ws.map (·.e) = (mes.take i.k).map (·.e)) (fun i => [(0, .slice A mes.length cp), (4, .slice i.A i.k i.c), (5, .slice i.B i.k i.d), (6, nv i.k)])
    (fun i => [Sl Wb (i.ws.map toB), Gr 1 65 i.B i.k i.d ((i.ws.map toB).map vW), Gr 3 67 i.A i.k i.c (i.ws.flatMap encLE), X, D]) (fun i => mes.length - i.k) ⟨0, [], none, 0, none, 0⟩ ⟨Nat.zero_le _, rfl⟩ subs (.refl _) ?_
  rintro ⟨k, ws, A1, c1, A2, c2⟩ ⟨hk, hw⟩ ih
  dsimp only at hk hw ih ⊢
  have hwl : ws.length = k := by have := congrArg List.length hw; simp only [List.length_map, List.length_take] at this; omega
  by_cases hlt : k < mes.length
  · obtain ⟨x, hx⟩ : ∃ x, mes[k]? = some x := ⟨_, List.getElem?_eq_getElem hlt⟩
    have hxm : x ∈ mes := List.mem_of_getElem? hx
    have hxd := hd x hxm
    refine W.fact (fun w h => IsA.of (k := k * 3) hX (by exact pick) (by rw [flat_len lenLE]; omega) h) fun hA => ?_
    refine run ?_
    refine .callE (wide_ok (hD.at_ hxm) hxd) ?_
    rintro v L ⟨A3, c3, rfl, rfl⟩
    refine run ?_
    refine W.plan [] mixed (by rfl) (by kernel_rfl) ?_
    refine run ?_
    refine .lit fun z2 => ?_
    refine run ?_
    refine .push (sz := 3) (m := 1) (Src.pick (cs := encLE ⟨x.e, A3, c3⟩) rfl rfl .hd .own rfl rfl rfl) fun A4 c4 => ?_
    refine run ?_
    refine .lit fun z3 => ?_
    refine run ?_
    refine .push (sz := 1) (m := 1) (Src.pick (cs := [vW (toB ⟨x.e, A3, c3⟩)]) rfl rfl .hd .own rfl rfl rfl) fun A5 c5 => ?_
    refine run ?_
    have h2 := ih ⟨k + 1, ws ++ [⟨x.e, A3, c3⟩], A4, c4, A5, c5⟩ ⟨by dsimp only; omega, by rw [List.take_add_one, hx]; simp [hw]⟩ (by dsimp only; omega)
    simp only [List.map_append, List.map_cons, List.map_nil, List.flatMap_append, List.flatMap_singleton] at h2
    refine .ent ((Picks.ent (a := [Wb (toB ⟨x.e, A3, c3⟩), Sl Wb (ws.map toB)]) picks).trans Sl.snoc) ?_
    exact .back h2
  · have hkl : k = mes.length := by omega
    refine run ?_
    refine .lit fun z2 => ?_
    refine run ?_
    refine .push (sz := 3) (m := 1) (Src.pick rfl rfl .hd .own rfl rfl rfl) fun A4 c4 => ?_
    refine run ?_
    refine .fact (fun w h => Gr.cap h) fun hcap => ?_
    refine .quiet rfl rfl rfl (Q.sliceTo (hi := mes.length) rfl rfl rfl rfl rfl rfl (by omega)) ?_
    refine run ?_
    rw [hkl]
    exact .retE Tryz.func49 ⟨ws, A4, c4, A2, c2, by rw [hw, hkl, List.take_length], rfl, rfl⟩
end
end Go.SL
namespace Go.SL
open Go.Proofs Go.Proofs.YtocogcgnahbpkaaGreat
open Rs (Nd)
set_option maxRecDepth 10000
def Wx (y : LB) : HP := GrX 1 5 y.A (y.data.length + 5) y.c
theorem Sl.reads {α : Type} {f : α → HP} {l : List α} {y : α} {A : Option Addr} {cs : List Value} (hy : y ∈ l) (h : Reads (f y) A cs) : Reads (Sl f l) A cs := fun r hr => by
  obtain ⟨r', h1, h2⟩ := Sl.at hy hr
  exact (h r' h2).le h1
theorem Wb.all {y : LB} : Reads (Wb y) y.A ((y.data ++ T5).map bc) := fun r h => by unfold Wb at h; exact Reads.gr r h
theorem Wb.x {y : LB} {r : Res} (h : Wb y r) : Wx y r := by unfold Wb at h; exact h.x
attribute [local irreducible] W RS RG RT RD Fn FnQ OpS QOp Own Sat Rd Gr Mp Rg Lg Ms Es Nod Rp NodI RLg RMs REs RN RLd RNF EsD MsD
section
variable {c : Cfg} {s s' : Nd} {X Y D : HP} {A B : Option Addr} {cp cq : Nat}
theorem datas_ok {mes : List LE} (hX : Reads X A (mes.flatMap encLE)) (hl : mes.length ≤ 1000000) : Fn Tryz.prog 53 [.slice A mes.length cp].toArray [X] (fun v L => ∃ A' c', v = .slice A' mes.length c' ∧ L = [Gr 1 65 A' mes.length c' ((mes.map toB).map vB), X]) := by
  refine Fn.enter Tryz.func53 rfl (by kernel_rfl) rfl ?_
  refine run ?_
  refine .ent (Ent.mk (X := Gr 1 65 none 0 0 []) fun r => .nil) ?_
  refine W.loopH (ι := Nat × Option Addr × Nat) (fun i => i.1 ≤ mes.length) (fun i => [(0, .slice A mes.length cp), (3, .slice i.2.1 i.1 i.2.2), (4, nv i.1)])
    (fun i => [Gr 1 65 i.2.1 i.1 i.2.2 (((mes.take i.1).map toB).map vB), X]) (fun i => mes.length - i.1) (0, none, 0) (Nat.zero_le _) subs (.refl _) ?_
  rintro ⟨k, A1, c1⟩ hk ih
  dsimp only at hk ih ⊢
  by_cases hlt : k < mes.length
  · obtain ⟨x, hx⟩ : ∃ x, mes[k]? = some x := ⟨_, List.getElem?_eq_getElem hlt⟩
    refine W.fact (fun w h => IsA.of (k := k * 3) hX (by exact pick) (by rw [flat_len lenLE]; omega) h) fun hA => ?_
    refine run ?_
    refine .lit fun z2 => ?_
    refine run ?_
    refine .push (sz := 1) (m := 1) (Src.pick (cs := [vB (toB x)]) rfl rfl .hd .own rfl rfl rfl) fun A5 c5 => ?_
    refine run ?_
    have h2 := ih (k + 1, A5, c5) (by dsimp only; omega) (by dsimp only; omega)
    rw [List.take_add_one, hx] at h2
    simp only [Option.toList_some, List.map_append, List.map_cons, List.map_nil] at h2
    exact .back h2
  · have hkl : k = mes.length := by omega
    refine run ?_
    rw [hkl, List.take_length]
    exact .retE Tryz.func53 ⟨A1, c1, rfl, rfl⟩
theorem over_ok {wl ul : List LB} {WA UA : Option Addr} {wc uc : Nat} (hwu : wl.map (·.data) = ul.map (·.data)) (hX : Reads X UA (ul.map vB)) (hD : DReadB D ul) (hl : wl.length ≤ 140737488355328) (hd : ∀ y ∈ wl, y.data.length ≤ 140737488351232) :
    Fn Tryz.prog 52 [.slice WA wl.length wc, .slice UA ul.length uc].toArray [Gr 1 65 WA wl.length wc (wl.map vW), Sl Wb wl, X, D] (Det (.bool true) [X, D]) := by
  have hlen : ul.length = wl.length := by have := congrArg List.length hwu; simpa using this.symm
  have hW : Reads (Gr 1 65 WA wl.length wc (wl.map vW)) WA (wl.map vW) := .gr
  refine Fn.enter Tryz.func52 rfl (by kernel_rfl) rfl ?_
  refine run ?_
  refine W.loopH (ι := Nat) (fun k => k ≤ wl.length) (fun k => [(0, .slice WA wl.length wc), (1, .slice UA ul.length uc), (5, .bool true), (6, nv k)])
    (fun k => [Gr 1 65 WA wl.length wc (wl.map vW), Sl Wb wl, X, D]) (fun k => wl.length - k) 0 (Nat.zero_le _) subs (.refl _) ?_
  intro k hk ih
  by_cases hlt : k < wl.length
  · obtain ⟨y, hy⟩ : ∃ y, wl[k]? = some y := ⟨_, List.getElem?_eq_getElem hlt⟩
    obtain ⟨u, hu⟩ : ∃ u, ul[k]? = some u := ⟨_, List.getElem?_eq_getElem (by omega)⟩
    have hyu : u.data = y.data := by
      have h1 := congrArg (fun l => l[k]?) hwu
      simp only [List.getElem?_map, hy, hu, Option.map_some] at h1
      injection h1 with h1; exact h1.symm
    have hyd := hd y (List.mem_of_getElem? hy)
    refine W.fact (fun w h => IsA.of (k := k) hW (by exact pick) (by simpa using hlt) h) fun hA => ?_
    refine W.fact (fun w h => IsA.of (k := k) hX (by exact pick) (by simpa using (by omega : k < ul.length)) h) fun hB => ?_
    refine run ?_
    refine .quiet rfl rfl rfl (R.load (v := vB u) rfl rfl rfl rfl hX pick (by rw [Nat.mul_one]; simp [hu])) ?_
    refine run ?_
    refine W.planT [Gr 1 65 WA wl.length wc (wl.map vW), Sl Wb wl] [1009, 2003, 2004, 2018] mixed (by rfl) (by kernel_rfl) ?_ picks
    refine run ?_
    refine RG.takeT rfl rfl rfl rfl (R.load (v := vW y) rfl rfl rfl rfl hW pick (by rw [Nat.mul_one]; simp [hy])) ?_ rfl
    refine RG.takeT rfl rfl rfl rfl (R.string (l := y.data ++ T5) rfl rfl rfl rfl rfl rfl rfl rfl (Sl.reads (List.mem_of_getElem? hy) Wb.all) pick (by simp [T5])) ?_ rfl
    refine run ?_
    refine RG.take rfl rfl rfl rfl (R.load (v := vB u) rfl rfl rfl rfl hX pick (by rw [Nat.mul_one]; simp [hu])) ?_ rfl
    have hud : u.data.length = y.data.length := by rw [hyu]
    have hP := part_n (A := u.A) (cp := u.c) (l := u.data) (by rw [hyu]; omega)
    have hDu : Reads D u.A (u.data.map bc) := fun r hr => hD r hr u (List.mem_of_getElem? hu)
    refine .two ?h1 ?h2
    case' h1 =>
      refine .callN hP ((Picks.sub (a := [D]) picks).trans (.of hDu)) ?_
      rintro v N ⟨A3, c3, rfl, rfl⟩
      refine .lit fun z => ?_
    case' h2 =>
      refine .lit fun z => ?_
      refine .callN hP ((Picks.sub (a := [D]) picks).trans (.of hDu)) ?_
      rintro v N ⟨A3, c3, rfl, rfl⟩
    all_goals
      refine .push (sz := 1) (m := 5) (Src.pick (cs := T5.map bc) rfl rfl .hd .own rfl rfl rfl) fun A4 c4 => ?_
      refine runR ?_
      refine RG.take rfl rfl rfl rfl (R.string (A := A4) (X := Gr 1 5 A4 (u.data.length + 5) c4 (u.data.map bc ++ T5.map bc)) (l := u.data ++ T5) rfl rfl rfl rfl rfl rfl rfl rfl (by rw [List.map_append]; exact .gr) pick (by simp [T5])) ?_ rfl
      refine RG.takeP rfl rfl rfl rfl (Q.eqStr rfl rfl rfl) ?_
      refine RG.hit 42 rfl (by rw [hyu]; simp : _ = .bool true) ?_
      refine run ?_
      refine RG.takeT rfl rfl rfl rfl (R.load (v := vW y) rfl rfl rfl rfl hW pick (by rw [Nat.mul_one]; simp [hy])) ?_ rfl
      refine run ?_
      exact .back (ih (k + 1) (by omega) (by omega))
  · refine run ?_
    refine .ent ((Picks.ent (a := [Sl Wb wl]) picks).trans (Ent.of (Y := Sl Wx wl) (Sl.mono fun y _ r h => h.x))) ?_
    refine W.loopH (ι := Nat) (fun i => i ≤ wl.length) (fun i => [(0, .slice WA wl.length wc), (5, .bool true), (8, nv i)])
      (fun i => [Gr 1 65 WA wl.length wc (wl.map vW), Sl Wx wl, X, D]) (fun i => wl.length - i) 0 (Nat.zero_le _) subs (Picks.sub picks) ?_
    intro i hi ih2
    by_cases hil : i < wl.length
    · obtain ⟨y, hy⟩ : ∃ y, wl[i]? = some y := ⟨_, List.getElem?_eq_getElem hil⟩
      have hyd := hd y (List.mem_of_getElem? hy)
      refine W.fact (fun w h => IsA.of (k := i) hW (by exact pick) (by simpa using hil) h) fun hA => ?_
      refine run ?_
      refine .ent ((Picks.ent (a := [Sl Wx wl]) picks).trans (Sl.out hy)) ?_
      refine W.loopH (ι := Nat) (fun j => j ≤ y.data.length + 5) (fun j => [(0, .slice WA wl.length wc), (5, .bool true), (8, nv i), (9, nv j)])
        (fun j => [Wx y, Gr 1 65 WA wl.length wc (wl.map vW), Sl Wx (wl.eraseIdx i), X, D]) (fun j => y.data.length + 5 - j) 0 (Nat.zero_le _) subs (Picks.sub picks) ?_
      intro j hj ih3
      by_cases hjl : j < y.data.length + 5
      · unfold Wx
        refine .ex fun cs => ?_
        refine W.fact (fun w h => Gr.len h) fun hcl => ?_
        refine W.fact (fun w h => IsA.of (k := j) (Reads.gr (sz := 1) (E := 5)) .hd (by omega) h) fun hB => ?_
        refine run ?_
        refine .quiet rfl rfl rfl (R.load (v := vW y) rfl rfl rfl rfl hW pick (by rw [Nat.mul_one]; simp [hy])) ?_
        refine run ?_
        refine .quiet rfl rfl rfl (R.load (v := vW y) rfl rfl rfl rfl hW pick (by rw [Nat.mul_one]; simp [hy])) ?_
        refine run ?_
        refine .det0 rfl rfl (O.storeRow rfl rfl rfl rfl rfl rfl .hd (by rw [hcl]; exact Nat.mul_lt_mul_of_pos_right hjl (by decide))) ?_
        refine run ?_
        refine .ent (Ent.of (Y := Wx y) fun r h => h.x) ?_
        exact .back (ih3 (j + 1) (by omega) (by omega))
      · refine run ?_
        refine .quiet rfl rfl rfl (R.load (v := vW y) rfl rfl rfl rfl hW pick (by rw [Nat.mul_one]; simp [hy])) ?_
        refine run ?_
        refine .ent ((Picks.ent (a := [Wx y, Sl Wx (wl.eraseIdx i)]) picks).trans (Sl.back hy)) ?_
        exact .back (ih2 (i + 1) (by omega) (by omega))
    · refine run ?_
      exact .retD Tryz.func52
end
end Go.SL
