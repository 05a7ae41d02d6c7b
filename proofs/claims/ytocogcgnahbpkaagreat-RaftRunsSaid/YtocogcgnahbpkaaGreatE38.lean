/-
  A part of the proof of what E53 says at its head.
-/
import Derived.Test.YtocogcgnahbpkaaGreatE37
namespace Go.SL
open Go.Proofs Go.Proofs.YtocogcgnahbpkaaGreat
open Rs (Nd)
set_option maxRecDepth 10000
theorem Q.lookV {P : Program} [Tab P] {n : Nat} {E : Env} {S S' : List HP} {o : Oper} {x y : Operand} {k t ev' b : Nat} {α β : Type} [DecidableEq α] {kenc : α → Value} {venc : β → Value} {ok : α → Prop} {l : List (α × β)} {r : Row} (K : KeyEnc P k kenc ok) {i : α} {zv : Value} {v : β} (hv : kget l i = some v) (ho : o.op = .lookup t x y false) (ht : ty P t = some r) (hd : r.d = .map k ev') (hz : ∀ w, (zeroValue ev').run P w = .ok zv w) (hx : ev E x = some (.map (some b))) (hy : ev E y = some (kenc i)) (hi : ok i)
    (hp : Pick (Mp P k kenc venc b l) S S') : QOp P n E S o (venc v) := by
  have := Q.lookup (n := n) K ho ht hd hz hx hy hi hp
  rw [hv] at this; exact this
theorem zero67 (w : World) : (zeroValue 67).run Tryz.prog w = .ok (.agg #[iv 0, iv 0, .slice none 0 0]) w := zero_of (by kernel_rfl) w
theorem KnD.at {K : List (Nat × LE)} {p : Nat × LE} (hp : p ∈ K) : Reads (KnD K) p.2.A (p.2.e.data.map bc) := fun r h => by unfold KnD at h; exact h p hp
theorem RT.skip {P : Program} {n : Nat} {e : Env} {L T : List HP} {ops : Array Oper} {C : Env → List HP → Prop} {qs : List Nat} {j d : Nat} {oj : Oper} {pl : Pl} (hj : ops[j]? = some oj) (hw : wn ops e oj = some false) (hd : oj.dst = some d) (hf : Nat.blt d n = true) (hk : RG P n qs T ops pl C ((d, undef) :: e) L) :
    RT P n qs T ops j pl C e L := fun listed F a w Q hs hmem hok hQ hd' h1 h2 h3 => by
  unfold wpOp
  simp only [hj]
  rw [wn_wanted h1 hw, if_neg (by simp), hd]
  exact ⟨⟨fun _ => .refl _, id⟩, hk _ F (a.put (some d) undef) w Q hs hok hQ (hd'.set hmem) (h1.put (d := some d) hf undef) h2 h3⟩
theorem runS {g K : Prop} (k : K) (h : Box K → g := by
  intro k0
  repeat (first
    | (refine run ?_; done)
    | (apply RG.skipA; exact rfl; exact rfl; exact rfl; exact rfl)
    | (apply RG.two <;> (apply RT.skip; exact rfl; exact rfl; exact rfl; exact rfl)))
  exact k0.out) : g := h ⟨k⟩
attribute [local irreducible] W RS RG RT RD Fn FnQ OpS QOp Own Sat Rd Gr Mp Rg Lg Ms Es Nod Rp NodI RLg RMs REs RN RLd RNF EsD MsD NBk BkP BkRd BothI MapsP KnD
section
variable {c : Rf.Cfg} {bw bs : Nat} {a : WC} {x : SC} {d : Nd} {les : List LE} {K : List (Nat × LE)} {T : List (Nat × Nat)}
theorem same1_t {y z : LE} {za zb : Nat} {D E : HP} (hyz : y.e = z.e) (hD : Reads D y.A (y.e.data.map bc)) (hE : Reads E z.A (z.e.data.map bc)) :
    FnQ Tryz.prog 45 [.slice (some ⟨za, 0, none⟩) 1 1, .slice (some ⟨zb, 0, none⟩) 1 1].toArray [Blk true za (encLE y) 67, D, Blk true zb (encLE z) 67, E] (.bool true) :=
  sameLog_t (X := Blk true za (encLE y) 67) (D := D) (Y := Blk true zb (encLE z) 67) (E := E) (l := [y]) (l' := [z]) (by rw [List.flatMap_singleton]; exact .own) (fun r h u hu => by rw [List.mem_singleton.1 hu]; exact hD r h) (by rw [List.flatMap_singleton]; exact .own) (fun r h u hu => by rw [List.mem_singleton.1 hu]; exact hE r h) (by simp) (by simp [hyz])
theorem complete_t (hs : d.snap ≤ d.log.length) (hl : d.log.length ≤ 1000000) (hles : les.map (·.e) = ents d.snap (d.log.drop d.snap)) (hhi : a.hi ≤ 1099511627775)
    (hK : ∀ i y, kget K i = some y → ∃ en u, y.e = ⟨i, en.term, en.data⟩ ∧ kget T i = some u ∧ (u < d.term → d.snap < i → d.log[i - 1]? = some en)) :
    Fn Tryz.prog 82 [pt bw, pt bs].toArray [Blk true bw (wcells c a) 43, Blk true bs (scells x d) 52, Rd false x.lA (les.flatMap encLE), Ds les, Mp Tryz.prog 3 nv encKn a.mK K, Mp Tryz.prog 3 nv nv a.mT T, KnD K]
      (Det (.bool true) [Blk true bw (wcells c a) 43, Blk true bs (scells x d) 52, Rd false x.lA (les.flatMap encLE), Ds les, Mp Tryz.prog 3 nv encKn a.mK K, Mp Tryz.prog 3 nv nv a.mT T, KnD K]) := by
  have hlen := les_len hles
  rw [List.length_drop] at hlen
  refine Fn.enter Tryz.func82 rfl (by kernel_rfl) rfl ?_
  refine run ?_
  refine W.loopH (ι := Nat) (fun i => d.snap < i ∧ i ≤ max (d.snap + 1) (a.hi + 1)) (fun i => [(0, pt bw), (1, pt bs), (5, nv i)])
    (fun i => [Blk true bw (wcells c a) 43, Blk true bs (scells x d) 52, Rd false x.lA (les.flatMap encLE), Ds les, Mp Tryz.prog 3 nv encKn a.mK K, Mp Tryz.prog 3 nv nv a.mT T, KnD K]) (fun i => a.hi + 1 - i) (d.snap + 1) ⟨by omega, by omega⟩ subs (.refl _) ?_
  rintro i ⟨hi1, hi2⟩ ih
  by_cases hlt : i ≤ a.hi
  · have hR : Reads (Rd false x.lA (les.flatMap encLE)) x.lA (les.flatMap encLE) := .rd
    refine run ?_
    cases hk : kget K i with
    | none =>
      refine .quiet rfl rfl rfl (Q.lookNone (i := i) K3 hk rfl rfl rfl zero67 rfl rfl (by unfold okN; omega) pick) ?_
      refine run ?_
      refine .new fun z6 => ?_
      refine run ?_
      by_cases hil : i ≤ d.log.length
      case' pos =>
        obtain ⟨y, hy⟩ : ∃ y, les[i - d.snap - 1]? = some y := ⟨_, List.getElem?_eq_getElem (by omega)⟩
        refine .callQ (entry_yes (bs := bs) (x := x) hR hles hi1 (by omega) hy) ?_
      case' neg =>
        refine .callQ (entry_no (bs := bs) (x := x) (d := d) (i := i) (q := true) (.inr (by omega)) hs (by omega) (by omega)) ?_
      all_goals
        refine run ?_
        refine .new fun z8 => ?_
        refine run ?_
        refine W.plan [24] mixed (by rfl) (by kernel_rfl) ?_
        refine run ?_
        refine .two (.skip rfl rfl rfl rfl (.skipA rfl rfl rfl rfl ?_)) (.skip rfl rfl rfl rfl (.skipA rfl rfl rfl rfl ?_))
        all_goals
          refine run ?_
          exact .back (ih (i + 1) ⟨by omega, by omega⟩ (by omega))
    | some z =>
      obtain ⟨en, u, h1, h2, h3⟩ := hK i z hk
      refine .quiet rfl rfl rfl (Q.lookSome (i := i) K3 hk rfl rfl rfl zero67 rfl rfl (by unfold okN; omega) pick) ?_
      refine run ?_
      refine .new fun z6 => ?_
      refine run ?_
      by_cases hu : u < d.term
      · have hen := h3 hu hi1
        have hil : i ≤ d.log.length := by have := (List.getElem?_eq_some_iff.1 hen).1; omega
        obtain ⟨y, hy⟩ : ∃ y, les[i - d.snap - 1]? = some y := ⟨_, List.getElem?_eq_getElem (by omega)⟩
        obtain ⟨en', he1, he2⟩ := les_at hles hy
        rw [List.getElem?_drop, show d.snap + (i - d.snap - 1) = i - 1 by omega, hen] at he1
        injection he1 with he1
        subst he1
        have hyz : y.e = z.e := by rw [he2, h1, show d.snap + (i - d.snap - 1) + 1 = i by omega]
        have hDy : Reads (Ds les) y.A (y.e.data.map bc) := fun r h => h y (List.mem_of_getElem? hy)
        have hEz : Reads (KnD K) z.A (z.e.data.map bc) := KnD.at (kget_mem hk)
        refine .callQ (entry_yes (bs := bs) (x := x) hR hles hi1 (by omega) hy) ?_
        refine run ?_
        refine .new fun z8 => ?_
        refine run ?_
        refine W.plan [24] mixed (by rfl) (by kernel_rfl) ?_
        refine run ?_
        refine RG.take rfl rfl rfl rfl (Q.lookV (i := i) (v := u) K3 h2 rfl rfl rfl zero3 rfl rfl (by unfold okN; omega) pick) ?_ rfl
        refine run ?_
        refine .two ?h1 ?h2
        case' h1 =>
          refine .lit fun za => ?_
          refine .lit fun zb => ?_
        case' h2 =>
          refine .lit fun zb => ?_
          refine .lit fun za => ?_
        all_goals
          refine .callQ (same1_t (za := za) (zb := zb) hyz hDy hEz) ?_
          refine run ?_
          exact .back (ih (i + 1) ⟨by omega, by omega⟩ (by omega))
      · by_cases hil : i ≤ d.log.length
        case' pos =>
          obtain ⟨y, hy⟩ : ∃ y, les[i - d.snap - 1]? = some y := ⟨_, List.getElem?_eq_getElem (by omega)⟩
          refine .callQ (entry_yes (bs := bs) (x := x) hR hles hi1 (by omega) hy) ?_
        case' neg =>
          refine .callQ (entry_no (bs := bs) (x := x) (d := d) (i := i) (q := true) (.inr (by omega)) hs (by omega) (by omega)) ?_
        all_goals
          refine run ?_
          refine .new fun z8 => ?_
          refine run ?_
          refine W.plan [24] mixed (by rfl) (by kernel_rfl) ?_
          refine run ?_
          refine RG.take rfl rfl rfl rfl (Q.lookV (i := i) (v := u) K3 h2 rfl rfl rfl zero3 rfl rfl (by unfold okN; omega) pick) ?_ rfl
          refine run ?_
          refine .two (.skip rfl rfl rfl rfl (.skipA rfl rfl rfl rfl ?_)) (.skip rfl rfl rfl rfl (.skipA rfl rfl rfl rfl ?_))
          all_goals
            refine run ?_
            exact .back (ih (i + 1) ⟨by omega, by omega⟩ (by omega))
  · refine run ?_
    exact .retD Tryz.func82
end
end Go.SL
namespace Go.SL
open Go.Proofs Go.Proofs.YtocogcgnahbpkaaGreat
open Rs (Nd)
set_option maxRecDepth 10000
attribute [local irreducible] W RS RG RT RD Fn FnQ OpS QOp Own Sat Rd Gr Mp Rg Lg Ms Es Nod Rp NodI RLg RMs REs RN RLd RNF EsD MsD NBk BkP BkRd BothI MapsP KnD
section
variable {c : Rf.Cfg} {bw bs : Nat} {a : WC} {x : SC} {d : Nd} {G : MG} {r : Rdy} {EA MA SA : Option Addr} {ec mc sc : Nat}
theorem KnInv.vput {G : MG} {L : List (Nat × Nat)} {V : List ((Nat × Nat) × Nat)} {K : List (Nat × LE)} {T : List (Nat × Nat)} (h : KnInv G L V K T) {n t v : Nat} (hv : G.vt t n = v) (h0 : v ≠ 0) : KnInv G L (kput V (n, t) v) K T := ⟨h.led, fun n' t' v' hk => by
  rw [kget_kput] at hk
  split at hk
  · rename_i e; injection hk with hk; injection e with e1 e2; rw [e1, e2, ← hk, hv]
  · exact h.voted n' t' v' hk, h.known, h.nz.1, fun p v' hk => by
  rw [kget_kput] at hk
  split at hk
  · injection hk with hk; omega
  · exact h.nz.2 p v' hk⟩
theorem KnInv.lput {G : MG} {L : List (Nat × Nat)} {V : List ((Nat × Nat) × Nat)} {K : List (Nat × LE)} {T : List (Nat × Nat)} (h : KnInv G L V K T) {t v : Nat} (hv : G.lid t = v) (h0 : v ≠ 0) : KnInv G (kput L t v) V K T := ⟨fun t' v' hk => by
  rw [kget_kput] at hk
  split at hk
  · rename_i e; injection hk with hk; rw [e, ← hk, hv]
  · exact h.led t' v' hk, h.voted, h.known, (fun t' v' hk => by
  rw [kget_kput] at hk
  split at hk
  · injection hk with hk; omega
  · exact h.nz.1 t' v' hk), h.nz.2⟩
theorem KnInv.kput {G : MG} {L : List (Nat × Nat)} {V : List ((Nat × Nat) × Nat)} {K : List (Nat × LE)} {T : List (Nat × Nat)} (h : KnInv G L V K T) {i t : Nat} {y : LE} {en : Rf.Ent} (hy : y.e = ⟨i, en.term, en.data⟩) (hk : G.KO i en t) : KnInv G L V (SL.kput K i y) (SL.kput T i t) := ⟨h.led, h.voted, fun i' x hx => by
  rw [kget_kput] at hx
  rw [kget_kput]
  split at hx
  · rename_i e; injection hx with hx; subst e; subst hx; rw [if_pos rfl]; exact ⟨en, t, hy, rfl, hk⟩
  · rename_i e; rw [if_neg e]; exact h.known i' x hx, h.nz⟩
theorem KnInv.kkeep {G : MG} {L : List (Nat × Nat)} {V : List ((Nat × Nat) × Nat)} {K : List (Nat × LE)} {T : List (Nat × Nat)} (h : KnInv G L V K T) {i t : Nat} {y : LE} {en : Rf.Ent} (hy : y.e = ⟨i, en.term, en.data⟩) (ht : kget T i = some t) (hk : G.KO i en t) : KnInv G L V (SL.kput K i y) T := ⟨h.led, h.voted, fun i' x hx => by
  rw [kget_kput] at hx
  split at hx
  · rename_i e; injection hx with hx; subst e; subst hx; exact ⟨en, t, hy, ht, hk⟩
  · exact h.known i' x hx, h.nz⟩
theorem KnD.put {K : List (Nat × LE)} {i : Nat} {y : LE} {les : List LE} {L : List HP} (hy : y ∈ les) : Ent (KnD K :: Ds les :: L) (KnD (kput K i y) :: L) := (Ent.unstar (l := [_, _])).trans (.of fun r ⟨r1, r2, a, b, _, d1, s1, _, a', _, _, d', _⟩ => by
  unfold KnD at *
  intro p hp
  rcases kput_mem hp with rfl | hp
  · exact ((d' y hy).le a').le b
  · exact (d1 p hp).le a)
structure TelOk (G : MG) (x : SC) (d : Nd) (r : Rdy) (hi : Nat) : Prop where
  vote : r.vote ≠ 0 → G.vt r.term x.id = r.vote
  led : r.role = 4 → G.lid r.term = x.id ∧ r.leader = x.id
  comp : r.role = 4 → x.ro ≠ 4 → ∀ i en u, G.KO i en u → u < d.term → d.snap < i → d.log[i - 1]? = some en
  up : x.cm ≤ r.commit
  fit : r.commit ≤ d.log.length
  same : ∀ i en u, G.KO i en u → i ≤ r.commit → d.snap < i → d.log[i - 1]? = some en
  new : ∀ i en, x.cm < i → i ≤ r.commit → d.snap < i → d.log[i - 1]? = some en → G.KO i en r.term
  sn : d.snap ≤ d.log.length
  len : d.log.length ≤ 1000000
  hi : hi ≤ 1000000
  id : 1 ≤ x.id ∧ x.id ≤ 1000
  term : r.term ≤ 1099511627776
theorem told_t (H : TelOk G x d r a.hi) : Fn Tryz.prog 60 [pt bw, pt bs, .agg (rdV r EA ec MA mc SA sc).toArray].toArray [Blk true bw (wcells c a) 43, Blk true bs (scells x d) 52, RLd x.lA d.snap (d.log.drop d.snap), MapsP G a.mL a.mV a.mK a.mT]
    (fun v L => ∃ hi, a.hi ≤ hi ∧ hi ≤ max a.hi r.commit ∧ v = .bool true ∧ L = [Blk true bw (wcells c { a with hi := hi }) 43, Blk true bs (scells { x with cm := r.commit, mo := max x.mo r.commit } d) 52, RLd x.lA d.snap (d.log.drop d.snap), MapsP G a.mL a.mV a.mK a.mT]) := by
  refine Fn.enter Tryz.func60 rfl (by kernel_rfl) rfl ?_
  have hbi := H.id
  have hbt := H.term
  have hbh := H.hi
  have hbl := H.len
  have hbs := H.sn
  have hbf := H.fit
  have hbu := H.up
  refine .seq ?_
  refine .region ?_
  refine runR ?_
  refine .box fun z5 => ?_
  refine runR ?_
  refine .seq ?_
  refine .region ?_
  refine runR ?_
  refine .seq ?_
  refine W.joinI (ι := Unit) (fun _ => True) (fun _ => [(0, pt bw), (1, pt bs), (5, pt z5), (7, nv r.term)]) (fun _ => [Blk true z5 (rdV r EA ec MA mc SA sc) 80, Blk true bw (wcells c a) 43, Blk true bs (scells x d) 52, RLd x.lA d.snap (d.log.drop d.snap), MapsP G a.mL a.mV a.mK a.mT]) ?_ fun tail => ?_
  case' refine_2 =>
    by_cases hv : r.vote = 0
    · refine .seq ?_
      refine .region ?_
      refine runR ?_
      refine .condF rfl ?_
      refine .skip ?_
      exact .back (tail () trivial)
    · refine .first (MapsP G a.mL a.mV a.mK a.mT) ?_
      refine .maps fun Ll V K T hI => ?_
      refine run ?_
      refine .new fun z8 => ?_
      refine run ?_
      refine W.plan [] mixed (by rfl) (by kernel_rfl) ?_
      refine run ?_
      cases hk : kget V (x.id, r.term) with
      | none =>
        refine RG.take rfl rfl rfl rfl (Q.lookNone (i := (x.id, r.term)) K150 hk rfl rfl rfl zero3 rfl rfl ⟨by unfold okN; omega, by unfold okN; omega⟩ pick) ?_ rfl
        refine run ?_
        refine W.plan [] mixed (by rfl) (by kernel_rfl) ?_
        refine runR ?_
        refine .putMap K150 (x.id, r.term) r.vote ⟨by unfold okN; omega, by unfold okN; omega⟩ ?_
        refine runR ?_
        refine .ent ((Picks.ent (a := [Mp Tryz.prog 3 nv nv a.mL Ll, Mp Tryz.prog 150 encVt nv a.mV (kput V (x.id, r.term) r.vote), Mp Tryz.prog 3 nv encKn a.mK K, Mp Tryz.prog 3 nv nv a.mT T, KnD K]) picks).trans (MapsP.shut (hI.vput (H.vote hv) hv))) ?_
        exact .back (tail () trivial)
      | some v =>
        have hvv : v = r.vote := (hI.voted _ _ _ hk).trans (H.vote hv)
        subst hvv
        refine RG.take rfl rfl rfl rfl (Q.lookSome (i := (x.id, r.term)) K150 hk rfl rfl rfl zero3 rfl rfl ⟨by unfold okN; omega, by unfold okN; omega⟩ pick) ?_ rfl
        refine run ?_
        refine W.plan [] mixed (by rfl) (by kernel_rfl) ?_
        refine runR ?_
        refine .putMap K150 (x.id, r.term) r.vote ⟨by unfold okN; omega, by unfold okN; omega⟩ ?_
        refine runR ?_
        refine .ent ((Picks.ent (a := [Mp Tryz.prog 3 nv nv a.mL Ll, Mp Tryz.prog 150 encVt nv a.mV (kput V (x.id, r.term) r.vote), Mp Tryz.prog 3 nv encKn a.mK K, Mp Tryz.prog 3 nv nv a.mT T, KnD K]) picks).trans (MapsP.shut (hI.vput (H.vote hv) hv))) ?_
        exact .back (tail () trivial)
  rintro ⟨⟩ _
  refine .seq ?_
  refine W.joinI (ι := Unit) (fun _ => True) (fun _ => [(0, pt bw), (1, pt bs), (5, pt z5), (7, nv r.term)]) (fun _ => [Blk true z5 (rdV r EA ec MA mc SA sc) 80, Blk true bw (wcells c a) 43, Blk true bs (scells x d) 52, RLd x.lA d.snap (d.log.drop d.snap), MapsP G a.mL a.mV a.mK a.mT]) ?_ fun tail => ?_
  case' refine_2 =>
    by_cases hr : r.role = 4
    · obtain ⟨hl1, hl2⟩ := H.led hr
      refine .first (MapsP G a.mL a.mV a.mK a.mT) ?_
      refine .maps fun Ll V K T hI => ?_
      refine .first (RLd x.lA d.snap (d.log.drop d.snap)) ?_
      refine .rld fun les hles => ?_
      refine .seq ?_
      refine .region ?_
      refine runR ?_
      refine .condT rfl ?_
      refine run ?_
      cases hk : kget Ll r.term with
      | none =>
        refine .quiet rfl rfl rfl (Q.lookNone (i := r.term) K3 hk rfl rfl rfl zero3 rfl rfl (by unfold okN; omega) pick) ?_
        refine run ?_
        refine W.plan [] mixed (by rfl) (by kernel_rfl) ?_
        refine run ?_
        refine W.plan [] mixed (by rfl) (by kernel_rfl) ?_
        refine runR ?_
        refine .putMap K3 r.term x.id (by unfold okN; omega) ?_
        refine runR ?_
        refine .seq ?_
        refine .region ?_
        have hI2 := hI.lput hl1 (by have := H.id; omega)
        by_cases hro : x.ro = 4
        case' pos => refine runR ?_
        case' neg =>
          refine runR ?_
          refine .callD (complete_t (c := c) (bw := bw) (bs := bs) (a := a) (x := x) (d := d) (les := les) (K := K) (T := T) hbs hbl hles (by omega) fun i y hy => by
            obtain ⟨en, u, h1, h2, h3⟩ := hI.known i y hy
            exact ⟨en, u, h1, h2, fun h4 h5 => H.comp hr hro i en u h3 h4 h5⟩) ?_
          refine runR ?_
        all_goals
          refine .condF rfl ?_
          refine .skip ?_
          refine .ent ((Picks.ent (a := [Rd false x.lA (les.flatMap encLE), Ds les]) picks).trans (RLd.close hles)) ?_
          refine .ent ((Picks.ent (a := [Mp Tryz.prog 3 nv nv a.mL (kput Ll r.term x.id), Mp Tryz.prog 150 encVt nv a.mV V, Mp Tryz.prog 3 nv encKn a.mK K, Mp Tryz.prog 3 nv nv a.mT T, KnD K]) picks).trans (MapsP.shut hI2)) ?_
          exact .back (tail () trivial)
      | some v =>
        have hvv : v = x.id := (hI.led _ _ hk).trans hl1
        subst hvv
        refine .quiet rfl rfl rfl (Q.lookSome (i := r.term) K3 hk rfl rfl rfl zero3 rfl rfl (by unfold okN; omega) pick) ?_
        refine run ?_
        refine W.plan [] mixed (by rfl) (by kernel_rfl) ?_
        refine run ?_
        refine W.plan [] mixed (by rfl) (by kernel_rfl) ?_
        refine runR ?_
        refine .putMap K3 r.term x.id (by unfold okN; omega) ?_
        refine runR ?_
        refine .seq ?_
        refine .region ?_
        have hI2 := hI.lput hl1 (by have := H.id; omega)
        by_cases hro : x.ro = 4
        case' pos => refine runR ?_
        case' neg =>
          refine runR ?_
          refine .callD (complete_t (c := c) (bw := bw) (bs := bs) (a := a) (x := x) (d := d) (les := les) (K := K) (T := T) hbs hbl hles (by omega) fun i y hy => by
            obtain ⟨en, u, h1, h2, h3⟩ := hI.known i y hy
            exact ⟨en, u, h1, h2, fun h4 h5 => H.comp hr hro i en u h3 h4 h5⟩) ?_
          refine runR ?_
        all_goals
          refine .condF rfl ?_
          refine .skip ?_
          refine .ent ((Picks.ent (a := [Rd false x.lA (les.flatMap encLE), Ds les]) picks).trans (RLd.close hles)) ?_
          refine .ent ((Picks.ent (a := [Mp Tryz.prog 3 nv nv a.mL (kput Ll r.term x.id), Mp Tryz.prog 150 encVt nv a.mV V, Mp Tryz.prog 3 nv encKn a.mK K, Mp Tryz.prog 3 nv nv a.mT T, KnD K]) picks).trans (MapsP.shut hI2)) ?_
          exact .back (tail () trivial)
    · refine .seq ?_
      refine .region ?_
      refine runR ?_
      refine .condF rfl ?_
      refine .skip ?_
      exact .back (tail () trivial)
  rintro ⟨⟩ _
  refine run ?_
  refine W.plan [] mixed (by rfl) (by kernel_rfl) ?_
  refine run ?_
  refine W.loopH (ι := Nat × Nat) (fun j => x.cm < j.1 ∧ j.1 ≤ max (x.cm + 1) (r.commit + 1) ∧ a.hi ≤ j.2 ∧ j.2 ≤ max a.hi r.commit) (fun j => [(0, pt bw), (1, pt bs), (5, pt z5), (7, nv r.term), (13, nv j.1)])
    (fun j => [Blk true z5 (rdV r EA ec MA mc SA sc) 80, Blk true bw (wcells c { a with hi := j.2 }) 43, Blk true bs (scells x d) 52, RLd x.lA d.snap (d.log.drop d.snap), MapsP G a.mL a.mV a.mK a.mT]) (fun j => r.commit + 1 - j.1) (x.cm + 1, a.hi) ⟨by dsimp only; omega, by dsimp only; omega, by dsimp only; omega, by dsimp only; omega⟩ subs (Picks.sub picks) ?_
  rintro ⟨i, hi⟩ ⟨h1, h2, h3, h4⟩ ih
  dsimp only at h1 h2 h3 h4 ih ⊢
  by_cases hlt : i ≤ r.commit
  · refine .first (MapsP G a.mL a.mV a.mK a.mT) ?_
    refine .maps fun Ll V K T hI => ?_
    refine .first (RLd x.lA d.snap (d.log.drop d.snap)) ?_
    refine .rld fun les hles => ?_
    have hlen := les_len hles
    rw [List.length_drop] at hlen
    have hR : Reads (Rd false x.lA (les.flatMap encLE)) x.lA (les.flatMap encLE) := .rd
    by_cases his : i ≤ d.snap
    · refine run ?_
      refine .callQ (entry_no (bs := bs) (x := x) (d := d) (i := i) (q := true) (.inl his) hbs (by omega) (by omega)) ?_
      refine run ?_
      refine .new fun z14 => ?_
      refine run ?_
      cases hk : kget K i with
      | none =>
        refine .quiet rfl rfl rfl (Q.lookNone (i := i) K3 hk rfl rfl rfl zero67 rfl rfl (by unfold okN; omega) pick) ?_
        refine run ?_
        refine .new fun z16 => ?_
        refine run ?_
        refine .ent ((Picks.ent (a := [Rd false x.lA (les.flatMap encLE), Ds les]) picks).trans (RLd.close hles)) ?_
        refine .ent ((Picks.ent (a := [Mp Tryz.prog 3 nv nv a.mL Ll, Mp Tryz.prog 150 encVt nv a.mV V, Mp Tryz.prog 3 nv encKn a.mK K, Mp Tryz.prog 3 nv nv a.mT T, KnD K]) picks).trans (MapsP.shut hI)) ?_
        exact .back (ih (i + 1, hi) ⟨by dsimp only; omega, by dsimp only; omega, h3, h4⟩ (by dsimp only; omega))
      | some y =>
        refine .quiet rfl rfl rfl (Q.lookSome (i := i) K3 hk rfl rfl rfl zero67 rfl rfl (by unfold okN; omega) pick) ?_
        refine run ?_
        refine .new fun z16 => ?_
        refine run ?_
        refine .ent ((Picks.ent (a := [Rd false x.lA (les.flatMap encLE), Ds les]) picks).trans (RLd.close hles)) ?_
        refine .ent ((Picks.ent (a := [Mp Tryz.prog 3 nv nv a.mL Ll, Mp Tryz.prog 150 encVt nv a.mV V, Mp Tryz.prog 3 nv encKn a.mK K, Mp Tryz.prog 3 nv nv a.mT T, KnD K]) picks).trans (MapsP.shut hI)) ?_
        exact .back (ih (i + 1, hi) ⟨by dsimp only; omega, by dsimp only; omega, h3, h4⟩ (by dsimp only; omega))
    · obtain ⟨y, hy⟩ : ∃ y, les[i - d.snap - 1]? = some y := ⟨_, List.getElem?_eq_getElem (by omega)⟩
      obtain ⟨en, he1, he2⟩ := les_at hles hy
      rw [List.getElem?_drop, show d.snap + (i - d.snap - 1) = i - 1 by omega] at he1
      rw [show d.snap + (i - d.snap - 1) + 1 = i by omega] at he2
      have hKO := H.new i en h1 hlt (by omega) he1
      have hDy : Reads (Ds les) y.A (y.e.data.map bc) := fun r h => h y (List.mem_of_getElem? hy)
      refine run ?_
      refine .callQ (entry_yes (bs := bs) (x := x) hR hles (by omega) (by omega) hy) ?_
      refine run ?_
      refine .new fun z14 => ?_
      refine run ?_
      cases hk : kget K i with
      | none =>
        refine .quiet rfl rfl rfl (Q.lookNone (i := i) K3 hk rfl rfl rfl zero67 rfl rfl (by unfold okN; omega) pick) ?_
        refine run ?_
        refine .new fun z16 => ?_
        refine run ?_
        refine W.plan [] mixed (by rfl) (by kernel_rfl) ?_
        refine run ?_
        refine RG.hit 168 rfl (rfl : _ = encKn y) ?_
        refine .putMap (venc := encKn) K3 i y (by unfold okN; omega) ?_
        refine run ?_
        rw [show max (hi : Int) (i : Int) = ((max hi i : Nat) : Int) by omega]
        refine .putMap K3 i r.term (by unfold okN; omega) ?_
        refine run ?_
        refine .ent ((Picks.ent (a := [Ds les]) picks).trans (Ent.dup Ds.pers)) ?_
        refine .ent ((Picks.ent (a := [KnD K, Ds les]) picks).trans (KnD.put (i := i) (List.mem_of_getElem? hy))) ?_
        refine .ent ((Picks.ent (a := [Rd false x.lA (les.flatMap encLE), Ds les]) picks).trans (RLd.close hles)) ?_
        refine .ent ((Picks.ent (a := [Mp Tryz.prog 3 nv nv a.mL Ll, Mp Tryz.prog 150 encVt nv a.mV V, Mp Tryz.prog 3 nv encKn a.mK (kput K i y), Mp Tryz.prog 3 nv nv a.mT (kput T i r.term), KnD (kput K i y)]) picks).trans (MapsP.shut (hI.kput he2 hKO))) ?_
        exact .back (ih (i + 1, max hi i) ⟨by dsimp only; omega, by dsimp only; omega, by dsimp only; omega, by dsimp only; omega⟩ (by dsimp only; omega))
      | some z =>
        obtain ⟨en', u, g1, g2, g3⟩ := hI.known i z hk
        have hen := H.same i en' u g3 hlt (by omega)
        rw [he1] at hen
        injection hen with hen
        subst hen
        have hyz : y.e = z.e := by rw [he2, g1]
        have hEz : Reads (KnD K) z.A (z.e.data.map bc) := KnD.at (kget_mem hk)
        refine .quiet rfl rfl rfl (Q.lookSome (i := i) K3 hk rfl rfl rfl zero67 rfl rfl (by unfold okN; omega) pick) ?_
        refine run ?_
        refine .new fun z16 => ?_
        refine run ?_
        refine .lit fun za => ?_
        refine run ?_
        refine .lit fun zb => ?_
        refine run ?_
        refine .callQ (same1_t (za := za) (zb := zb) hyz hDy hEz) ?_
        refine run ?_
        refine W.plan [] mixed (by rfl) (by kernel_rfl) ?_
        refine run ?_
        refine RG.hit 168 rfl (rfl : _ = encKn y) ?_
        refine .putMap (venc := encKn) K3 i y (by unfold okN; omega) ?_
        refine run ?_
        refine .quiet rfl rfl rfl (Q.lookV (i := i) (v := u) K3 g2 rfl rfl rfl zero3 rfl rfl (by unfold okN; omega) pick) ?_
        rw [show max (hi : Int) (i : Int) = ((max hi i : Nat) : Int) by omega]
        by_cases hu : r.term < u
        · refine run ?_
          refine .putMap K3 i r.term (by unfold okN; omega) ?_
          refine run ?_
          refine .ent ((Picks.ent (a := [Ds les]) picks).trans (Ent.dup Ds.pers)) ?_
          refine .ent ((Picks.ent (a := [KnD K, Ds les]) picks).trans (KnD.put (i := i) (List.mem_of_getElem? hy))) ?_
          refine .ent ((Picks.ent (a := [Rd false x.lA (les.flatMap encLE), Ds les]) picks).trans (RLd.close hles)) ?_
          refine .ent ((Picks.ent (a := [Mp Tryz.prog 3 nv nv a.mL Ll, Mp Tryz.prog 150 encVt nv a.mV V, Mp Tryz.prog 3 nv encKn a.mK (kput K i y), Mp Tryz.prog 3 nv nv a.mT (kput T i r.term), KnD (kput K i y)]) picks).trans (MapsP.shut (hI.kput he2 hKO))) ?_
          exact .back (ih (i + 1, max hi i) ⟨by dsimp only; omega, by dsimp only; omega, by dsimp only; omega, by dsimp only; omega⟩ (by dsimp only; omega))
        · refine run ?_
          refine .ent ((Picks.ent (a := [Ds les]) picks).trans (Ent.dup Ds.pers)) ?_
          refine .ent ((Picks.ent (a := [KnD K, Ds les]) picks).trans (KnD.put (i := i) (List.mem_of_getElem? hy))) ?_
          refine .ent ((Picks.ent (a := [Rd false x.lA (les.flatMap encLE), Ds les]) picks).trans (RLd.close hles)) ?_
          refine .ent ((Picks.ent (a := [Mp Tryz.prog 3 nv nv a.mL Ll, Mp Tryz.prog 150 encVt nv a.mV V, Mp Tryz.prog 3 nv encKn a.mK (kput K i y), Mp Tryz.prog 3 nv nv a.mT T, KnD (kput K i y)]) picks).trans (MapsP.shut (hI.kkeep he2 g2 g3))) ?_
          exact .back (ih (i + 1, max hi i) ⟨by dsimp only; omega, by dsimp only; omega, by dsimp only; omega, by dsimp only; omega⟩ (by dsimp only; omega))
  · clear ih
    refine run ?_
    refine W.plan [] mixed (by rfl) (by kernel_rfl) ?_
    refine run ?_
    rw [show max (x.mo : Int) (r.commit : Int) = ((max x.mo r.commit : Nat) : Int) by omega]
    exact .retE Tryz.func60 ⟨hi, h3, h4, rfl, rfl⟩
end
end Go.SL
