/-
  A part of the proof of what E53 says at its head.
-/
import Derived.Test.YtocogcgnahbpkaaGreatE6
namespace Go.SL
open Go.RowKit
def kd : Op → Nat
  | .move _ | .assign _ | .pick .. | .nilCheck _ | .fieldAddr .. | .field .. | .extract .. | .unOp .. | .build .. => 0
  | .binOp .lss .. | .binOp .leq .. | .binOp .gtr .. | .binOp .geq .. | .binOp .eql .. | .binOp .neq .. => 2
  | .binOp .. | .call ⟨.builtin .min, _, _⟩ | .call ⟨.builtin .max, _, _⟩ | .call ⟨.builtin .len, _, _⟩ => 4
  | .load .. => 1
  | .indexAddr .. => 5
  | .store .. => 3
  | _ => 9
section
variable {P : Program} {n : Nat} {e : Env} {L S : List HP} {o : Oper} {v : Value} {ops : Array Oper} {rest : List Oper} {C : Env → List HP → Prop} {qs : List Nat} {T : List HP} {pl : Pl}
theorem q0 {g : Prop} (h : g := by
  first
  | (apply Q.move; exact rfl; exact rfl)
  | (apply Q.fieldAddr; exact rfl; exact rfl; exact rfl; exact rfl; exact rfl; exact rfl)
  | (apply R.fld; exact rfl; exact rfl; exact rfl; exact rfl; exact rfl; exact rfl; assumption)
  | (apply Q.assign; exact rfl; exact rfl)
  | (apply Q.nilCheck; exact rfl; exact rfl)
  | (apply Q.pickT; exact rfl; exact rfl; exact rfl)
  | (apply Q.pickF; exact rfl; exact rfl; exact rfl)
  | (apply Q.extract; exact rfl; exact rfl; exact rfl)
  | (apply Q.build; exact rfl; exact rfl; exact rfl; exact rfl)
  | (apply Q.not; exact rfl; exact rfl)
  | (apply Q.field; exact rfl; exact rfl; exact rfl; exact rfl; exact rfl; exact rfl; exact rfl; exact rfl)) : g := h
theorem Q.loadP [Tab P] {t b bt off : Nat} {q : Bool} {cs vs : List Value} {r : Row} {S' : List HP} {fz : Nat × Nat} {x : Operand} (ho : o.op = .load t x) (ht : ty P t = some r) (ha : r.agg = true) (hx : ev e x = some (.pointer (some ⟨b, off, none⟩)))
    (hp : Pick (Own q b (.cells cs.toArray bt fz)) S S') (hv : partAt cs off r.size = some vs) : QOp P n e S o (.agg vs.toArray) :=
  let ⟨h1, h2⟩ := partAt_eq hv
  Q.loadPart ho ht ha hx hp h1 h2
theorem q1 {g : Prop} (h : g := by
  first
  | (apply Q.load; exact rfl; exact rfl; exact rfl; exact rfl; (repeat (first | exact Pick.hd | apply Pick.tl)); exact rfl)
  | (apply Q.loadAll; exact rfl; exact rfl; exact rfl; exact rfl; (repeat (first | exact Pick.hd | apply Pick.tl)); exact rfl)
  | (apply R.cell; exact rfl; exact rfl; exact rfl; exact rfl; (first | assumption | exact Reads.gr | exact Reads.rd); (repeat (first | exact Pick.hd | apply Pick.tl)); exact fun _ => rfl; assumption; exact rfl)
  | (apply R.loadE; exact rfl; exact rfl; exact rfl; exact rfl; (first | assumption | exact Reads.gr | exact Reads.rd); (repeat (first | exact Pick.hd | apply Pick.tl)); exact fun _ => rfl; exact rfl; assumption)) : g := h
theorem q5 {g : Prop} (h : g := by
  first
  | (apply R.idx; exact rfl; exact rfl; exact rfl; exact rfl; exact rfl; exact rfl; assumption; omega)
  | (apply Q.indexAddr; exact rfl; exact rfl; exact rfl; exact rfl; exact rfl; exact rfl; omega)) : g := h
theorem q4 {g : Prop} (h : g := by
  first
  | (apply Q.lenS; exact rfl; exact rfl; exact rfl; exact rfl; exact rfl)
  | (apply Q.add; exact rfl; exact rfl; exact rfl; omega)
  | (apply Q.sub; exact rfl; exact rfl; exact rfl; omega)
  | (apply Q.min; exact rfl; exact rfl; exact rfl)
  | (apply Q.max; exact rfl; exact rfl; exact rfl)) : g := h
theorem cmp {g : Prop} (h : g := by
  first
  | (apply Q.lss; exact rfl; exact rfl; exact rfl)
  | (apply Q.eql; exact rfl; exact rfl; exact rfl)
  | (apply Q.neq; exact rfl; exact rfl; exact rfl)
  | (apply Q.leq; exact rfl; exact rfl; exact rfl)
  | (apply Q.gtr; exact rfl; exact rfl; exact rfl)
  | (apply Q.geq; exact rfl; exact rfl; exact rfl)) : g := h
theorem QOp.isT {p : Prop} {i : Decidable p} (h : QOp P n e S o (.bool (decide p))) (hp : p) : QOp P n e S o (.bool true) := by rwa [decide_eq_true hp] at h
theorem QOp.isF {p : Prop} {i : Decidable p} (h : QOp P n e S o (.bool (decide p))) (hp : ¬ p) : QOp P n e S o (.bool false) := by rwa [decide_eq_false hp] at h
theorem q2 {g : Prop} (h : g := by
  first
  | (apply QOp.isT; exact cmp; omega)
  | (apply QOp.isF; exact cmp; omega)
  | exact cmp) : g := h
theorem o3 {g : Prop} (h : g := by
  first
  | (apply O.store; exact rfl; exact rfl; exact rfl; exact rfl; exact rfl; exact rfl; (repeat (first | exact Pick.hd | apply Pick.tl)); exact rfl)
  | (apply O.storeAgg; exact rfl; exact rfl; exact rfl; exact rfl; exact rfl; exact rfl; (repeat (first | exact Pick.hd | apply Pick.tl)); exact rfl; exact rfl)) : g := h
def QK (P : Program) (n : Nat) (e : Env) (S : List HP) (o : Oper) (v : Value) : Prop := QOp P n e S o v
theorem QK.i0 (_ : kd o.op = 0) (h : QOp P n e S o v) : QK P n e S o v := h
theorem QK.i1 (_ : kd o.op = 1) (h : QOp P n e S o v) : QK P n e S o v := h
theorem QK.i2 (_ : kd o.op = 2) (h : QOp P n e S o v) : QK P n e S o v := h
theorem QK.i5 (_ : kd o.op = 5) (h : QOp P n e S o v) : QK P n e S o v := h
theorem QK.i4 (_ : kd o.op = 4) (h : QOp P n e S o v) : QK P n e S o v := h
theorem RS.q {d : Nat} (hg : o.guard = none) (hd : o.dst = some d) (hf : Nat.blt d n = true) (h : QK P n e L o v) (hn : RS P n ops rest C ((d, v) :: e) L) : RS P n ops (o :: rest) C e L := .quiet hg hd hf h hn
theorem RS.s {L' : List HP} (_ : kd o.op = 3) (hg : o.guard = none) (hd : o.dst = none) (h : OpS P n e L o (Det v L')) (hn : RS P n ops rest C e L') : RS P n ops (o :: rest) C e L := .det0 hg hd h hn
theorem RG.k {i d : Nat} {oi : Oper} (hi : ops[i]? = some oi) (hm : isMem oi.op = false) (hg : wn ops e oi = some true) (hd : oi.dst = some d) (hf : Nat.blt d n = true) (hy : QK P n e [] oi v) (h : RG P n qs T ops pl C ((d, v) :: e) L) :
    RG P n qs T ops (.q i pl) C e L := .takeP hi hg hd hf hy h
theorem RG.m {i d : Nat} {oi : Oper} (hi : ops[i]? = some oi) (hm : isMem oi.op = true) (hg : wn ops e oi = some true) (hd : oi.dst = some d) (hf : Nat.blt d n = true) (hy : QK P n e L oi v) (h : RG P n qs T ops pl C ((d, v) :: e) L) (ht : isT qs i = false) :
    RG P n qs T ops (.q i pl) C e L := .take hi hg hd hf hy h hm ht
theorem RG.mT {i d : Nat} {oi : Oper} (hi : ops[i]? = some oi) (hm : isMem oi.op = true) (hg : wn ops e oi = some true) (hd : oi.dst = some d) (hf : Nat.blt d n = true) (hy : QK P n e T oi v) (h : RG P n qs T ops pl C ((d, v) :: e) L) :
    RG P n qs T ops (.q i pl) C e L := .takeT hi hg hd hf hy h hm
theorem RG.s {j : Nat} {oj : Oper} {L' : List HP} (hj : ops[j]? = some oj) (_ : kd oj.op = 3) (hw : wn ops e oj = some true) (hd : oj.dst = none) (h : OpS P n e L oj (Det v L')) (hk : RG P n qs T ops pl C e L') (hq : isQK qs ops j = false) :
    RG P n qs T ops (.a j pl) C e L := .det0 hj hw hd h hk hq
end
structure Box (p : Prop) : Prop where
  out : p
theorem run {g K : Prop} (k : K) (h : Box K → g := by
  intro k0
  repeat (first
    | (apply RS.q; exact rfl; exact rfl; exact rfl; first
      | (apply QK.i0; exact rfl; exact q0)
      | (apply QK.i1; exact rfl; exact q1)
      | (apply QK.i4; exact rfl; exact q4)
      | (apply QK.i5; exact rfl; exact q5)
      | (apply QK.i2; exact rfl; exact q2))
    | (apply RG.k; exact rfl; exact rfl; exact rfl; exact rfl; exact rfl; first
      | (apply QK.i0; exact rfl; exact q0)
      | (apply QK.i4; exact rfl; exact q4)
      | (apply QK.i5; exact rfl; exact q5)
      | (apply QK.i2; exact rfl; exact q2))
    | (apply RG.m; exact rfl; exact rfl; exact rfl; exact rfl; exact rfl; first
      | (apply QK.i1; exact rfl; exact q1)
      | (apply QK.i4; exact rfl; exact q4)
       rotate_left; exact rfl)
    | (apply RG.mT; exact rfl; exact rfl; exact rfl; exact rfl; exact rfl; first
      | (apply QK.i1; exact rfl; exact q1)
      | (apply QK.i4; exact rfl; exact q4))
    | (apply RS.s; exact rfl; exact rfl; exact rfl; exact o3)
    | (apply RG.s; exact rfl; exact rfl; exact rfl; exact rfl; exact o3; rotate_left; exact rfl)
    | (apply RG.skip; exact rfl; exact rfl; exact rfl; exact rfl)
    | (apply RS.guardT; exact rfl; exact rfl; exact rfl; exact rfl)
    | (apply RS.guardW; exact rfl; exact rfl; exact rfl)
    | apply RS.nil
    | apply RG.nil0
    | apply RG.nil1
    | apply RG.nil2
    | apply W.seq
    | apply W.region
    | apply W.block
    | apply W.endBlock
    | apply W.skip
    | (apply W.exit; exact rfl)
    | (apply W.condT; exact rfl)
    | (apply W.condF; exact rfl))
  exact k0.out) : g := h ⟨k⟩
theorem runR {g K : Prop} (k : K) (h : Box K → g := by
  intro k0
  repeat (first
    | (apply RS.q; exact rfl; exact rfl; exact rfl; first
      | (apply QK.i0; exact rfl; exact q0)
      | (apply QK.i1; exact rfl; exact q1)
      | (apply QK.i4; exact rfl; exact q4)
      | (apply QK.i5; exact rfl; exact q5)
      | (apply QK.i2; exact rfl; exact q2))
    | (apply RG.k; exact rfl; exact rfl; exact rfl; exact rfl; exact rfl; first
      | (apply QK.i0; exact rfl; exact q0)
      | (apply QK.i4; exact rfl; exact q4)
      | (apply QK.i5; exact rfl; exact q5)
      | (apply QK.i2; exact rfl; exact q2))
    | (apply RG.m; exact rfl; exact rfl; exact rfl; exact rfl; exact rfl; first
      | (apply QK.i1; exact rfl; exact q1)
      | (apply QK.i4; exact rfl; exact q4)
       rotate_left; exact rfl)
    | (apply RG.mT; exact rfl; exact rfl; exact rfl; exact rfl; exact rfl; first
      | (apply QK.i1; exact rfl; exact q1)
      | (apply QK.i4; exact rfl; exact q4))
    | (apply RS.s; exact rfl; exact rfl; exact rfl; exact o3)
    | (apply RG.s; exact rfl; exact rfl; exact rfl; exact rfl; exact o3; rotate_left; exact rfl)
    | (apply RG.skip; exact rfl; exact rfl; exact rfl; exact rfl)
    | (apply RS.guardT; exact rfl; exact rfl; exact rfl; exact rfl)
    | (apply RS.guardW; exact rfl; exact rfl; exact rfl)
    | apply RS.nil
    | apply RG.nil0
    | apply RG.nil1
    | apply RG.nil2)
  exact k0.out) : g := h ⟨k⟩
def appL : List HP → List HP → Option (List HP)
  | [], m => some m
  | x :: l, m => match appL l m with
    | some k => some (x :: k)
    | none => none
theorem appL_eq : ∀ {l m k : List HP}, appL l m = some k → k = l ++ m
  | [], m, k, h => by injection h with h; exact h.symm
  | x :: l, m, k, h => by
    unfold appL at h
    cases hk : appL l m with
    | none => simp only [hk] at h; cases h
    | some k' => simp only [hk] at h; injection h with h; rw [← h, appL_eq hk]; rfl
theorem pick {g : Prop} (h : g := by repeat (first | exact Pick.hd | apply Pick.tl)) : g := h
theorem picks {g : Prop} (h : g := by repeat (first | exact Picks.nil | (apply Picks.cons; (repeat (first | exact Pick.hd | apply Pick.tl))))) : g := h
section
variable {P : Program} {n f : Nat} {e : Env} {L L' M pre post : List HP} {o : Oper} {v : Value} {ops : Array Oper} {rest : List Oper} {C : Env → List HP → Prop} {qs : List Nat} {T : List HP} {pl : Pl} {g : Operand} {args : Array Operand} {ts : Array Nat} {vs : List Value} {R : Fin} {d j : Nat}
theorem O.callP (h : Fn P f vs.toArray pre R) (ho : o.op = .call ⟨.value g, args, ts⟩) (hg : ev e g = some (.func (.func f) #[] #[])) (hv : evs e args.toList = some vs) (hL : Picks pre L L') : OpS P n e L o fun v M => ∃ L2, R v L2 ∧ M = L2 ++ L' := O.call ho hg hv h hL.ent
theorem RS.callD (h : Fn P f vs.toArray pre (Det v post)) (hn : RS P n ops rest C ((d, v) :: e) M) (ho : o.op = .call ⟨.value g, args, ts⟩ := by exact rfl) (hg : ev e g = some (.func (.func f) #[] #[]) := by exact rfl) (hv : evs e args.toList = some vs := by exact rfl)
    (hL : Picks pre L L' := by exact picks) (hM : appL post L' = some M := by exact rfl) (hgd : o.guard = none := by exact rfl) (hd : o.dst = some d := by exact rfl) (hf : Nat.blt d n = true := by exact rfl) : RS P n ops (o :: rest) C e L :=
  .det hgd hd hf ((O.callP h ho hg hv hL).mono fun v' L2 ⟨L3, ⟨h1, h2⟩, h3⟩ => ⟨h1, by rw [h3, h2]; exact (appL_eq hM).symm⟩) hn
theorem RS.callE (h : Fn P f vs.toArray pre R) (hn : ∀ v L2, R v L2 → RS P n ops rest C ((d, v) :: e) (L2 ++ L')) (ho : o.op = .call ⟨.value g, args, ts⟩ := by exact rfl) (hg : ev e g = some (.func (.func f) #[] #[]) := by exact rfl) (hv : evs e args.toList = some vs := by exact rfl)
    (hL : Picks pre L L' := by exact picks) (hgd : o.guard = none := by exact rfl) (hd : o.dst = some d := by exact rfl) (hf : Nat.blt d n = true := by exact rfl) : RS P n ops (o :: rest) C e L :=
  .any hgd hd hf (O.callP h ho hg hv hL) fun v L2 ⟨L3, h1, h2⟩ => by rw [h2]; exact hn v L3 h1
theorem RS.callQ (h : FnQ P f vs.toArray pre v) (hn : RS P n ops rest C ((d, v) :: e) L) (ho : o.op = .call ⟨.value g, args, ts⟩ := by exact rfl) (hg : ev e g = some (.func (.func f) #[] #[]) := by exact rfl) (hv : evs e args.toList = some vs := by exact rfl)
    (hL : Picks pre L L' := by exact picks) (hgd : o.guard = none := by exact rfl) (hd : o.dst = some d := by exact rfl) (hf : Nat.blt d n = true := by exact rfl) : RS P n ops (o :: rest) C e L :=
  .quiet hgd hd hf (Q.call ho hg hv h hL.sub) hn
theorem RG.callD (h : Fn P f vs.toArray pre (Det v post)) (hn : RG P n qs T ops pl C ((d, v) :: e) M) (hj : ops[j]? = some o := by exact rfl) (ho : o.op = .call ⟨.value g, args, ts⟩ := by exact rfl) (hg : ev e g = some (.func (.func f) #[] #[]) := by exact rfl) (hv : evs e args.toList = some vs := by exact rfl)
    (hL : Picks pre L L' := by exact picks) (hM : appL post L' = some M := by exact rfl) (hgd : wn ops e o = some true := by exact rfl) (hd : o.dst = some d := by exact rfl) (hf : Nat.blt d n = true := by exact rfl) (hq : isQK qs ops j = false := by exact rfl) : RG P n qs T ops (.a j pl) C e L :=
  .det hj hgd hd hf ((O.callP h ho hg hv hL).mono fun v' L2 ⟨L3, ⟨h1, h2⟩, h3⟩ => ⟨h1, by rw [h3, h2]; exact (appL_eq hM).symm⟩) hn hq
theorem RG.callE (h : Fn P f vs.toArray pre R) (hn : ∀ v L2, R v L2 → RG P n qs T ops pl C ((d, v) :: e) (L2 ++ L')) (hj : ops[j]? = some o := by exact rfl) (ho : o.op = .call ⟨.value g, args, ts⟩ := by exact rfl) (hg : ev e g = some (.func (.func f) #[] #[]) := by exact rfl) (hv : evs e args.toList = some vs := by exact rfl)
    (hL : Picks pre L L' := by exact picks) (hgd : wn ops e o = some true := by exact rfl) (hd : o.dst = some d := by exact rfl) (hf : Nat.blt d n = true := by exact rfl) (hq : isQK qs ops j = false := by exact rfl) : RG P n qs T ops (.a j pl) C e L :=
  .act hj hgd hd hf (O.callP h ho hg hv hL) (fun v L2 ⟨L3, h1, h2⟩ => by rw [h2]; exact hn v L3 h1) hq
theorem RG.callQ (h : FnQ P f vs.toArray pre v) (hn : RG P n qs T ops pl C ((d, v) :: e) L) (hj : ops[j]? = some o := by exact rfl) (ho : o.op = .call ⟨.value g, args, ts⟩ := by exact rfl) (hg : ev e g = some (.func (.func f) #[] #[]) := by exact rfl) (hv : evs e args.toList = some vs := by exact rfl)
    (hL : Picks pre L L' := by exact picks) (hgd : wn ops e o = some true := by exact rfl) (hd : o.dst = some d := by exact rfl) (hf : Nat.blt d n = true := by exact rfl) (hm : isMem o.op = true := by exact rfl) (hT : isT qs j = false := by exact rfl) : RG P n qs T ops (.q j pl) C e L :=
  .take hj hgd hd hf (Q.call ho hg hv h hL.sub) hn hm hT
theorem rvs {g : Prop} (h : g := by
  first
  | exact .r0
  | exact .r1 (.tmp rfl)
  | exact .r2 (.tmp rfl) (.tmp rfl)
  | exact .r3 (.tmp rfl) (.tmp rfl) (.tmp rfl)
  | exact .r4 (.tmp rfl) (.tmp rfl) (.tmp rfl) (.tmp rfl)) : g := h
variable {fn : Func} {k : List Item}
theorem W.retD (hf : P.funcs[f]? = some fn) (hv : RVs P e L fn.results v := by exact rvs) (hL : Picks post L M := by exact picks) : W P f n (Det v post) (.code .ret :: k) e [] L := .ret hf hv hL.sub ⟨rfl, rfl⟩
theorem W.doneD (hf : P.funcs[f]? = some fn) (hv : RVs P e L fn.results v := by exact rvs) (hL : Picks post L M := by exact picks) : W P f n (Det v post) [] e [] L := .done hf hv hL.sub ⟨rfl, rfl⟩
theorem W.retE (hf : P.funcs[f]? = some fn) (hR : R v post) (hv : RVs P e L fn.results v := by exact rvs) (hL : Picks post L M := by exact picks) : W P f n R (.code .ret :: k) e [] L := .ret hf hv hL.sub hR
theorem W.doneE (hf : P.funcs[f]? = some fn) (hR : R v post) (hv : RVs P e L fn.results v := by exact rvs) (hL : Picks post L M := by exact picks) : W P f n R [] e [] L := .done hf hv hL.sub hR
theorem Fn.quietD {a : Array Value} (h : Fn P f a L (Det v M)) (hp : ∀ Q ∈ L, Pers Q) : FnQ P f a L v := (h.mono (R' := fun v' _ => v' = v) fun v' L' hd => ⟨L', .refl _, hd.1⟩).quiet hp
end
section
variable {P : Program} {n f : Nat} {e : Env} {L M : List HP} {k : List Item} {ds : List Deferred} {R : Fin} {ops : Array Oper} {rest : List Oper} {C : Env → List HP → Prop} {qs : List Nat} {T : List HP} {pl : Pl}
theorem W.fact {φ : Prop} (h : ∀ w, Sat w L → φ) (hn : φ → W P f n R k e ds L) : W P f n R k e ds L := fun F b cs t w h1 h2 h3 h4 => hn (h w h4.fst) F b cs t w h1 h2 h3 h4
theorem RS.fact {φ : Prop} (h : ∀ w, Sat w L → φ) (hn : φ → RS P n ops rest C e L) : RS P n ops rest C e L := fun F a w Q h1 h2 h3 => hn (h w h2.fst) F a w Q h1 h2 h3
theorem RG.fact {φ : Prop} (h : ∀ w, Sat w L → φ) (hn : φ → RG P n qs T ops pl C e L) : RG P n qs T ops pl C e L := fun listed F a w Q q1 q2 q3 q4 h1 h2 h3 => hn (h w h2.fst) listed F a w Q q1 q2 q3 q4 h1 h2 h3
theorem RS.ent (hL : Ent L M) (h : RS P n ops rest C e M) : RS P n ops rest C e L := fun F a w Q h1 h2 h3 => h F a w Q h1 (h2.entF hL) h3
theorem Ent.mk {X : HP} (h : ∀ r, X r) : Ent L (X :: L) := fun r hr => ⟨fun _ => none, r, fun _ _ _ h => (nomatch h), .refl r, fun _ _ _ _ _ h => (nomatch h), h _, hr⟩
theorem Ent.of {X Y : HP} (h : ∀ r, X r → Y r) : Ent (X :: L) (Y :: L) := fun _ ⟨r1, r2, a, b, c, d, e⟩ => ⟨r1, r2, a, b, c, h _ d, e⟩
theorem W.loopH {ι : Type} {c : Code} (H : ι → Prop) (I : ι → Env) (M : ι → List HP) (m : ι → Nat) (i : ι) (hi : H i) (hs : Subs (I i) e) (hL : Ent L (M i))
    (h : ∀ i, H i → (∀ j, H j → m j < m i → W P f n R (.inLoop c :: k) (I j) ds (M j)) → W P f n R (.code c :: .inLoop c :: k) (I i) ds (M i)) : W P f n R (.code (.loop c) :: k) e ds L := by
  have key : ∀ q i, H i → m i = q → W P f n R (.inLoop c :: k) (I i) ds (M i) := by
    intro q
    induction q using Nat.strongRecOn with
    | _ q ih => exact fun i hi hq => .next (fun _ _ _ _ => step_inLoop) (h i hi fun j hj hlt => ih (m j) (hq ▸ hlt) j hj rfl)
  exact .weak hs hL (.next (fun _ _ _ _ => step_loop) (h i hi fun j hj _ => key _ j hj rfl))
theorem subs {g : Prop} (h : g := by repeat (first | exact trivial | refine ⟨rfl, ?_⟩)) : g := h
theorem W.back {e' : Env} (h : W P f n R k e' ds M) (hs : Subs e' e := by exact subs) {rest : List HP} (hL : Picks M L rest := by exact picks) : W P f n R k e ds L := .weak hs hL.sub h
theorem W.keepE {e' : Env} (hs : Subs e' e) (h : W P f n R k e' ds L) : W P f n R k e ds L := .keep hs h
end
section
variable {P : Program} [Tab P] {n f : Nat} {e : Env} {L L' M : List HP} {o : Oper} {ops : Array Oper} {rest : List Oper} {C : Env → List HP → Prop} {qs : List Nat} {T : List HP} {pl : Pl} {d j : Nat} {s x : Operand} {t tx E m c sz nn len : Nat} {r re : Row} {news vs cs : List Value} {xv : Value} {A : Option Addr} {ps : Array (Nat × Operand)}
theorem RS.push (hsrc : ∀ w, Sat w L' → Src P sz tx xv m news w) (hn : ∀ A' c', RS P n ops rest C ((d, .slice A' (nn + m) c') :: e) (Gr sz E A' (nn + m) c' (cs ++ news) :: L'))
    (ho : o.op = .call ⟨.builtin .append, #[s, x], #[t, tx]⟩ := by exact rfl) (ht : ty P t = some r := by exact rfl) (hd : r.d = .slice E := by exact rfl) (hte : ty P E = some re := by exact rfl) (hsz : re.size = sz := by exact rfl) (hzl : Nat.beq re.zero.length re.size = true := by exact rfl)
    (hs : ev e s = some (.slice A nn c) := by exact rfl) (hx : ev e x = some xv := by exact rfl) (hp : Pick (Gr sz E A nn c cs) L L' := by exact pick) (hg : o.guard = none := by exact rfl) (hdd : o.dst = some d := by exact rfl) (hf : Nat.blt d n = true := by exact rfl) (h63 : nn + m ≤ maxLen := by unfold maxLen; omega) (hby : (nn + m) * re.bytes ≤ 140737488355328 := by dsimp only; omega) : RS P n ops (o :: rest) C e L :=
  .any hg hdd hf (O.append ho ht hd hte hsz hzl hs hx hp hsrc h63 hby) fun v M ⟨A', c', h1, h2⟩ => by rw [h1, h2]; exact hn A' c'
theorem RG.push (hsrc : ∀ w, Sat w L' → Src P sz tx xv m news w) (hn : ∀ A' c', RG P n qs T ops pl C ((d, .slice A' (nn + m) c') :: e) (Gr sz E A' (nn + m) c' (cs ++ news) :: L'))
    (hj : ops[j]? = some o := by exact rfl) (ho : o.op = .call ⟨.builtin .append, #[s, x], #[t, tx]⟩ := by exact rfl) (ht : ty P t = some r := by exact rfl) (hd : r.d = .slice E := by exact rfl) (hte : ty P E = some re := by exact rfl) (hsz : re.size = sz := by exact rfl) (hzl : Nat.beq re.zero.length re.size = true := by exact rfl)
    (hs : ev e s = some (.slice A nn c) := by exact rfl) (hx : ev e x = some xv := by exact rfl) (hp : Pick (Gr sz E A nn c cs) L L' := by exact pick) (hg : wn ops e o = some true := by exact rfl) (hdd : o.dst = some d := by exact rfl) (hf : Nat.blt d n = true := by exact rfl) (h63 : nn + m ≤ maxLen := by unfold maxLen; omega) (hby : (nn + m) * re.bytes ≤ 140737488355328 := by dsimp only; omega) (hq : isQK qs ops j = false := by exact rfl) : RG P n qs T ops (.a j pl) C e L :=
  .act hj hg hdd hf (O.append ho ht hd hte hsz hzl hs hx hp hsrc h63 hby) (fun v M ⟨A', c', h1, h2⟩ => by rw [h1, h2]; exact hn A' c') hq
theorem RS.lit (hn : ∀ z, RS P n ops rest C ((d, .slice (some ⟨z, 0, none⟩) len len) :: e) (Blk true z vs E :: L)) (ho : o.op = .buildSlice t len ps := by exact rfl) (ht : ty P t = some r := by exact rfl) (hd : r.d = .slice E := by exact rfl) (hte : ty P E = some re := by exact rfl) (hzl : Nat.beq re.zero.length re.size = true := by exact rfl) (hz : Nat.beq re.size 0 = false := by exact rfl) (hlz : Nat.beq len 0 = false := by exact rfl)
    (hv : parts e (rowFs re.size ixs) ps.toList (zeros re.zero len) = some vs := by exact rfl) (hle : Nat.ble (len * re.size) 16777216 = true := by exact rfl) (hg : o.guard = none := by exact rfl) (hdd : o.dst = some d := by exact rfl) (hf : Nat.blt d n = true := by exact rfl) : RS P n ops (o :: rest) C e L :=
  .any hg hdd hf (OpN.op <| N.buildSlice ho ht hd hte hzl hz hlz hv hle) fun v M ⟨z, h1, h2⟩ => by rw [h1, h2]; exact hn z
theorem RG.lit (hn : ∀ z, RG P n qs T ops pl C ((d, .slice (some ⟨z, 0, none⟩) len len) :: e) (Blk true z vs E :: L)) (hj : ops[j]? = some o := by exact rfl) (ho : o.op = .buildSlice t len ps := by exact rfl) (ht : ty P t = some r := by exact rfl) (hd : r.d = .slice E := by exact rfl) (hte : ty P E = some re := by exact rfl) (hzl : Nat.beq re.zero.length re.size = true := by exact rfl) (hz : Nat.beq re.size 0 = false := by exact rfl) (hlz : Nat.beq len 0 = false := by exact rfl)
    (hv : parts e (rowFs re.size ixs) ps.toList (zeros re.zero len) = some vs := by exact rfl) (hle : Nat.ble (len * re.size) 16777216 = true := by exact rfl) (hg : wn ops e o = some true := by exact rfl) (hdd : o.dst = some d := by exact rfl) (hf : Nat.blt d n = true := by exact rfl) : RG P n qs T ops (.a j pl) C e L :=
  .actN hj hg hdd hf (N.buildSlice ho ht hd hte hzl hz hlz hv hle) fun v M ⟨z, h1, h2⟩ => by rw [h1, h2]; exact hn z
theorem RS.new (hn : ∀ z, RS P n ops rest C ((d, .pointer (some ⟨z, 0, none⟩)) :: e) (Blk true z r.zero t :: L)) (ho : o.op = .alloc t := by exact rfl) (ht : ty P t = some r := by exact rfl) (hg : o.guard = none := by exact rfl) (hdd : o.dst = some d := by exact rfl) (hf : Nat.blt d n = true := by exact rfl) : RS P n ops (o :: rest) C e L :=
  .any hg hdd hf (N.alloc ho ht).op fun v M ⟨z, h1, h2⟩ => by rw [h1, h2]; exact hn z
theorem RG.new (hn : ∀ z, RG P n qs T ops pl C ((d, .pointer (some ⟨z, 0, none⟩)) :: e) (Blk true z r.zero t :: L)) (hj : ops[j]? = some o := by exact rfl) (ho : o.op = .alloc t := by exact rfl) (ht : ty P t = some r := by exact rfl) (hg : wn ops e o = some true := by exact rfl) (hdd : o.dst = some d := by exact rfl) (hf : Nat.blt d n = true := by exact rfl) : RG P n qs T ops (.a j pl) C e L :=
  .actN hj hg hdd hf (N.alloc ho ht) fun v M ⟨z, h1, h2⟩ => by rw [h1, h2]; exact hn z
 omit [Tab P] in
theorem RS.box (hn : ∀ z, RS P n ops rest C ((d, .pointer (some ⟨z, 0, none⟩)) :: e) (Blk true z vs t :: L)) (ho : o.op = .box t x := by exact rfl) (hx : ev e x = some (.agg vs.toArray) := by exact rfl) (hg : o.guard = none := by exact rfl) (hdd : o.dst = some d := by exact rfl) (hf : Nat.blt d n = true := by exact rfl) : RS P n ops (o :: rest) C e L :=
  .any hg hdd hf (N.box ho hx).op fun v M ⟨z, h1, h2⟩ => by rw [h1, h2]; exact hn z
 omit [Tab P] in
theorem RS.box1 (hn : ∀ z, RS P n ops rest C ((d, .pointer (some ⟨z, 0, none⟩)) :: e) (Blk true z [xv] t :: L)) (ho : o.op = .box t x := by exact rfl) (hx : ev e x = some xv := by exact rfl) (hv : isOne xv = true := by exact rfl) (hg : o.guard = none := by exact rfl) (hdd : o.dst = some d := by exact rfl) (hf : Nat.blt d n = true := by exact rfl) : RS P n ops (o :: rest) C e L :=
  .any hg hdd hf (N.boxV ho hx hv).op fun v M ⟨z, h1, h2⟩ => by rw [h1, h2]; exact hn z
 omit [Tab P] in
theorem RG.box (hn : ∀ z, RG P n qs T ops pl C ((d, .pointer (some ⟨z, 0, none⟩)) :: e) (Blk true z vs t :: L)) (hj : ops[j]? = some o := by exact rfl) (ho : o.op = .box t x := by exact rfl) (hx : ev e x = some (.agg vs.toArray) := by exact rfl) (hg : wn ops e o = some true := by exact rfl) (hdd : o.dst = some d := by exact rfl) (hf : Nat.blt d n = true := by exact rfl) : RG P n qs T ops (.a j pl) C e L :=
  .actN hj hg hdd hf (N.box ho hx) fun v M ⟨z, h1, h2⟩ => by rw [h1, h2]; exact hn z
 omit [Tab P] in
theorem RG.callN {g : Operand} {args : Array Operand} {ts : Array Nat} {pre : List HP} {R : Fin} (h : FnN P f vs.toArray pre R) (hL : Ent L pre) (hn : ∀ v N, R v N → RG P n qs T ops pl C ((d, v) :: e) (N ++ L)) (hj : ops[j]? = some o := by exact rfl) (ho : o.op = .call ⟨.value g, args, ts⟩ := by exact rfl) (hg : ev e g = some (.func (.func f) #[] #[]) := by exact rfl) (hv : evs e args.toList = some vs := by exact rfl)
    (hgd : wn ops e o = some true := by exact rfl) (hd : o.dst = some d := by exact rfl) (hf : Nat.blt d n = true := by exact rfl) : RG P n qs T ops (.a j pl) C e L :=
  .actN hj hgd hd hf (N.call ho hg hv h hL) fun v M ⟨N, h1, h2⟩ => by rw [h2]; exact hn v N h1
 omit [Tab P] in
theorem RS.callN {g : Operand} {args : Array Operand} {ts : Array Nat} {pre : List HP} {R : Fin} (h : FnN P f vs.toArray pre R) (hL : Ent L pre) (hn : ∀ v N, R v N → RS P n ops rest C ((d, v) :: e) (N ++ L)) (ho : o.op = .call ⟨.value g, args, ts⟩ := by exact rfl) (hg : ev e g = some (.func (.func f) #[] #[]) := by exact rfl) (hv : evs e args.toList = some vs := by exact rfl)
    (hgd : o.guard = none := by exact rfl) (hd : o.dst = some d := by exact rfl) (hf : Nat.blt d n = true := by exact rfl) : RS P n ops (o :: rest) C e L :=
  .any hgd hd hf (N.call ho hg hv h hL).op fun v M ⟨N, h1, h2⟩ => by rw [h2]; exact hn v N h1
 omit [Tab P] in
theorem RG.caseB {t : Nat} {b : Bool} (h : look e t = some (.bool b)) (hT : b = true → RG P n qs T ops pl C ((t, .bool true) :: e) L) (hF : b = false → RG P n qs T ops pl C ((t, .bool false) :: e) L) : RG P n qs T ops pl C e L := by
  intro listed F a w Q q1 q2 q3 q4 h1 h2 h3
  cases b with
  | true => exact hT rfl listed F a w Q q1 q2 q3 q4 (h1.hit h) h2 h3
  | false => exact hF rfl listed F a w Q q1 q2 q3 q4 (h1.hit h) h2 h3
 omit [Tab P] in
theorem RS.caseB {t : Nat} {b : Bool} (h : look e t = some (.bool b)) (hT : b = true → RS P n ops rest C ((t, .bool true) :: e) L) (hF : b = false → RS P n ops rest C ((t, .bool false) :: e) L) : RS P n ops rest C e L := by
  intro F a w Q h1 h2 h3
  cases b with
  | true => exact hT rfl F a w Q (h1.hit h) h2 h3
  | false => exact hF rfl F a w Q (h1.hit h) h2 h3
 omit [Tab P] in
theorem FnQ.pre {f : Nat} {a : Array Value} {v : Value} (h : FnQ P f a L v) (hL : Ent M L) : FnQ P f a M v := ⟨h.1, fun w hs => h.2 w (hs.ent hL)⟩
theorem RT.new (hn : ∀ z, RG P n qs T ops pl C ((d, .pointer (some ⟨z, 0, none⟩)) :: e) (Blk true z r.zero t :: L)) (hj : ops[j]? = some o := by exact rfl) (ho : o.op = .alloc t := by exact rfl) (ht : ty P t = some r := by exact rfl) (hg : wn ops e o = some true := by exact rfl) (hdd : o.dst = some d := by exact rfl) (hf : Nat.blt d n = true := by exact rfl) : RT P n qs T ops j pl C e L :=
  .actN hj hg hdd hf (N.alloc ho ht) fun v M ⟨z, h1, h2⟩ => by rw [h1, h2]; exact hn z
theorem RT.lit (hn : ∀ z, RG P n qs T ops pl C ((d, .slice (some ⟨z, 0, none⟩) len len) :: e) (Blk true z vs E :: L)) (hj : ops[j]? = some o := by exact rfl) (ho : o.op = .buildSlice t len ps := by exact rfl) (ht : ty P t = some r := by exact rfl) (hd : r.d = .slice E := by exact rfl) (hte : ty P E = some re := by exact rfl) (hzl : Nat.beq re.zero.length re.size = true := by exact rfl) (hz : Nat.beq re.size 0 = false := by exact rfl) (hlz : Nat.beq len 0 = false := by exact rfl)
    (hv : parts e (rowFs re.size ixs) ps.toList (zeros re.zero len) = some vs := by exact rfl) (hle : Nat.ble (len * re.size) 16777216 = true := by exact rfl) (hg : wn ops e o = some true := by exact rfl) (hdd : o.dst = some d := by exact rfl) (hf : Nat.blt d n = true := by exact rfl) : RT P n qs T ops j pl C e L :=
  .actN hj hg hdd hf (N.buildSlice ho ht hd hte hzl hz hlz hv hle) fun v M ⟨z, h1, h2⟩ => by rw [h1, h2]; exact hn z
 omit [Tab P] in
theorem RT.box (hn : ∀ z, RG P n qs T ops pl C ((d, .pointer (some ⟨z, 0, none⟩)) :: e) (Blk true z vs t :: L)) (hj : ops[j]? = some o := by exact rfl) (ho : o.op = .box t x := by exact rfl) (hx : ev e x = some (.agg vs.toArray) := by exact rfl) (hg : wn ops e o = some true := by exact rfl) (hdd : o.dst = some d := by exact rfl) (hf : Nat.blt d n = true := by exact rfl) : RT P n qs T ops j pl C e L :=
  .actN hj hg hdd hf (N.box ho hx) fun v M ⟨z, h1, h2⟩ => by rw [h1, h2]; exact hn z
 omit [Tab P] in
theorem RT.callN {g : Operand} {f : Nat} {args : Array Operand} {ts : Array Nat} {vs : List Value} {pre : List HP} {R : Fin} (h : FnN P f vs.toArray pre R) (hL : Ent L pre) (hn : ∀ v N, R v N → RG P n qs T ops pl C ((d, v) :: e) (N ++ L)) (hj : ops[j]? = some o := by exact rfl) (ho : o.op = .call ⟨.value g, args, ts⟩ := by exact rfl) (hg : ev e g = some (.func (.func f) #[] #[]) := by exact rfl) (hv : evs e args.toList = some vs := by exact rfl)
    (hgd : wn ops e o = some true := by exact rfl) (hd : o.dst = some d := by exact rfl) (hf : Nat.blt d n = true := by exact rfl) : RT P n qs T ops j pl C e L :=
  .actN hj hgd hd hf (N.call ho hg hv h hL) fun v M ⟨N, h1, h2⟩ => by rw [h2]; exact hn v N h1
 omit [Tab P] in
theorem RT.callE {g : Operand} {f : Nat} {args : Array Operand} {ts : Array Nat} {vs : List Value} {pre : List HP} {R : Fin} (h : Fn P f vs.toArray pre R) (hn : ∀ v L2, R v L2 → RG P n qs T ops pl C ((d, v) :: e) (L2 ++ L')) (hj : ops[j]? = some o := by exact rfl) (ho : o.op = .call ⟨.value g, args, ts⟩ := by exact rfl) (hg : ev e g = some (.func (.func f) #[] #[]) := by exact rfl) (hv : evs e args.toList = some vs := by exact rfl)
    (hL : Picks pre L L' := by exact picks) (hgd : wn ops e o = some true := by exact rfl) (hd : o.dst = some d := by exact rfl) (hf : Nat.blt d n = true := by exact rfl) (hq : isQK qs ops j = false := by exact rfl) : RT P n qs T ops j pl C e L :=
  .act hj hgd hd hf (O.callP h ho hg hv hL) (fun v L2 ⟨L3, h1, h2⟩ => by rw [h2]; exact hn v L3 h1) hq
end
end Go.SL
