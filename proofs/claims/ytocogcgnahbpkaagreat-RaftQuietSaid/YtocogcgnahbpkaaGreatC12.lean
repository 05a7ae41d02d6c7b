import Derived.WalkKit
import Derived.WalkSpells
import Derived.WalkLawsBesides
import Derived.Lib.Hide
import Derived.Maps.AppendAt
import Derived.Deep.AppendLies
import Derived.Deep.Draws
import Derived.Laws.OwnMore
import Derived.Maps.OwnSet
import Derived.Deep.RegionHeld3
import Derived.RegionTactic
import Derived.Test.YtocogcgnahbpkaaGreatProg
import Derived.BigQuiet
import Derived.Deep.QuietTactic
import Derived.Deep.DeepCutAuto
import Derived.Deep.CutRange
import Derived.Deep.CutBlock
namespace Go.Proofs.YtocogcgnahbpkaaGreat
open Go.RowKit
theorem ret_bool {a b:Bool} (h:a=b):Ending.returned (.bool a)=.returned (.bool b):=by rw [h]
theorem ret_int {k:IntKind} {a b:Int} (h:a=b):Ending.returned (.int k a)=.returned (.int k b):=by rw [h]
section
variable {α:Type} {enc:α→List Value} {sz:Nat} {w w':World} {B:Nat} {A:Option Addr} {xs ys:List α}
theorem flat_len (hs:∀ x,(enc x).length=sz):∀ xs:List α,(xs.flatMap enc).length=xs.length*sz
 | []=>by simp
 | x :: r=>by rw [List.flatMap_cons,List.length_append,hs,flat_len hs r,List.length_cons,Nat.add_mul];omega
theorem flat_at (hs:∀ x,(enc x).length=sz):∀ (xs:List α) (k j:Nat) (x:α),xs[k]?=some x→j<sz→(xs.flatMap enc)[k*sz+j]?=(enc x)[j]?
 | [],k,j,x,h,_=>by simp at h
 | y :: r,0,j,x,h,hj=>by
  simp at h;subst h
  rw [List.flatMap_cons,Nat.zero_mul,Nat.zero_add,List.getElem?_append_left (by rw [hs];exact hj)]
 | y :: r,k+1,j,x,h,hj=>by
  rw [List.flatMap_cons,List.getElem?_append_right (by rw [hs,Nat.add_mul];omega),hs]
  have e:(k+1)*sz+j-sz=k*sz+j:=by rw [Nat.add_mul];omega
  rw [e]
  exact flat_at hs r k j x (by simpa using h) hj
theorem flat_inv (hs:∀ x,(enc x).length=sz) (xs:List α) (i:Nat) (v:Value) (h:(xs.flatMap enc)[i]?=some v):∃ k j x,i=k*sz+j∧j<sz∧xs[k]?=some x∧(enc x)[j]?=some v:=by
 have hi:i<(xs.flatMap enc).length:=(List.getElem?_eq_some_iff.1 h).1
 rw [flat_len hs] at hi
 have h0:0<sz:=by
  rcases Nat.eq_zero_or_pos sz with h0 | h0
  ·subst h0;simp at hi
  ·exact h0
 have e:i=i / sz*sz+i % sz:=by rw [Nat.mul_comm];exact (Nat.div_add_mod i sz).symm
 have hk:i / sz<xs.length:=(Nat.div_lt_iff_lt_mul h0).2 hi
 have hm:=Nat.mod_lt i h0
 refine ⟨i / sz,i % sz,xs[i / sz],e,hm,List.getElem?_eq_getElem hk,?_⟩
 rw [←flat_at hs xs (i / sz) (i % sz) _ (List.getElem?_eq_getElem hk) hm,←e]
 exact h
def Row (enc:α→List Value) (sz:Nat) (w:World) (B:Nat) (A:Option Addr) (xs:List α):Prop :=
 xs=[]∨∃ b o,A=some ⟨b,o,none⟩∧b<B∧∀ k x,xs[k]?=some x→∀ j v,(enc x)[j]?=some v→w.cell? ⟨b,o+k*sz+j,none⟩=some v
theorem Row.keep (h:Row enc sz w B A xs) (hb:∀ p:Addr,p.block<B→w'.cell? p=w.cell? p):Row enc sz w' B A xs:=by
 rcases h with h | ⟨b,o,e,hb',hc⟩
 ·exact .inl h
 ·exact .inr ⟨b,o,e,hb',fun k x hk j v hv=>(hb ⟨b,_,none⟩ hb').trans (hc k x hk j v hv)⟩
theorem Row.below (h:Row enc sz w B A xs) (hb:Below B w w'):Row enc sz w' B A xs:=h.keep fun _ hp=>hb.cell hp
theorem Row.more {B':Nat} (h:Row enc sz w B A xs) (hB:B≤B'):Row enc sz w B' A xs:=by
 rcases h with h | ⟨b,o,e,hb',hc⟩
 ·exact .inl h
 ·exact .inr ⟨b,o,e,by omega,hc⟩
theorem Row.alloc (h:Row enc sz w B A xs) (hB:B≤w.heap.size) (o:Obj):Row enc sz (w.alloc o) B A xs:=h.keep fun p hp=>World.cell?_alloc_lt w o p (by omega)
theorem Row.at_ {k:Nat} {x:α} (h:Row enc sz w B A xs) (hk:xs[k]?=some x) :
  ∃ b o,A=some ⟨b,o,none⟩∧b<B∧∀ j v,(enc x)[j]?=some v→w.cell? ⟨b,o+k*sz+j,none⟩=some v:=by
 rcases h with rfl | ⟨b,o,e,hb',hc⟩
 ·simp at hk
 ·exact ⟨b,o,e,hb',hc k x hk⟩
theorem Row.cut {n k cap:Nat} (h:Row enc sz w B A xs) (hk:k≤n) (hn:n≤cap) :
  Row enc sz w B (if cap=k then A else A.map (·.add (k*sz))) ((xs.take n).drop k):=by
 by_cases hz:(xs.take n).drop k=[]
 ·exact .inl hz
 ·rcases h with rfl | ⟨b,o,e,hb',hc⟩
  ·simp at hz
  ·have hkn:k<n:=by
    rcases Nat.lt_or_ge k n with h | h
    ·exact h
    ·exact absurd (List.drop_eq_nil_of_le (by rw [List.length_take];omega)) hz
   subst e
   rw [if_neg (by omega)]
   refine .inr ⟨b,o+k*sz,?_,hb',fun i x hi j v hv=>?_⟩
   ·simp only [Option.map_some,Addr.add]
    split
    ·next h0=>simp [h0]
    ·rfl
   ·have hi':xs[k+i]?=some x:=by
     rw [List.getElem?_drop] at hi
     have:=List.getElem?_take (l:=xs) (i:=n) (j:=k+i)
     rw [hi] at this
     split at this
     ·exact this.symm
     ·cases this
    have:=hc (k+i) x hi' j v hv
    rwa [Nat.add_mul,←Nat.add_assoc] at this
def Own (enc:α→List Value) (sz:Nat) (e:TypeId) (w:World) (base:Nat) (v:Value) (xs:List α):Prop:=w.ownsRow base e sz v xs.length (xs.flatMap enc)
theorem Own.nil {e:TypeId} {base:Nat}:Own enc sz e w base (.slice none 0 0) []:=World.ownsRow_nil w base e sz
theorem Own.form {e:TypeId} {base:Nat} {v:Value} (h:Own enc sz e w base v xs):∃ A c,v=.slice A xs.length c:=by
 rcases h.2 with ⟨rfl,h0⟩ | ⟨g,cap,cur,rfl,_⟩
 ·rw [h0];exact ⟨_,_,rfl⟩
 ·exact ⟨_,_,rfl⟩
theorem Own.row {e:TypeId} {base:Nat} {c:Nat} (hs:∀ x,(enc x).length=sz) (h:Own enc sz e w base (.slice A xs.length c) xs):Row enc sz w w.heap.size A xs:=by
 rcases h.2 with ⟨_,h⟩ | ⟨g,cap,cur,hv,hb,hg,h1,h2,h3,h4⟩
 ·exact .inl (List.eq_nil_of_length_eq_zero h)
 ·injection hv with hA _ _
  subst hA
  refine .inr ⟨g,0,rfl,(Array.getElem?_eq_some_iff.1 hg).1,fun k x hk j v hv=>?_⟩
  have hj:j<sz:=by rw [←hs x];exact (List.getElem?_eq_some_iff.1 hv).1
  have hf:=(flat_at hs xs k j x hk hj).trans hv
  have:=World.ownsRow.cells h (g:=g) rfl _ _ hf
  rw [Addr.add_lit] at this
  simpa using this
theorem Own.lt {e:TypeId} {base:Nat} {v:Value} (h:Own enc sz e w base v xs):∀ k,v.ownBlock=some k→base≤k∧k<w.heap.size:=World.ownsRow.lt h
theorem Own.kept {e:TypeId} {base:Nat} {v:Value} {row:Option Nat} (h:Own enc sz e w base v xs) (hg:w.grownBy w' row) (hne:v.ownBlock=none∨v.ownBlock≠row):Own enc sz e w' base v xs:=World.ownsRow.kept h hg hne
theorem Own.alloc {e:TypeId} {base:Nat} {v:Value} (h:Own enc sz e w base v xs) (o:Obj):Own enc sz e (w.alloc o) base v xs:=World.ownsRow.alloc h o
theorem Own.below {e:TypeId} {base B:Nat} {v:Value} (h:Own enc sz e w base v xs) (hb:Below B w w') (hB:w.heap.size≤B):Own enc sz e w' base v xs:=by
 refine ⟨h.1,?_⟩
 rcases h.2 with h | ⟨g,cap,cur,hv,h0,hg,h1⟩
 ·exact .inl h
 ·have:=(Array.getElem?_eq_some_iff.1 hg).1
  exact .inr ⟨g,cap,cur,hv,h0,(hb.block g (by omega)).trans hg,h1⟩
theorem Own.weaken {e:TypeId} {base base':Nat} {v:Value} (h:Own enc sz e w base v xs) (hb:base'≤base):Own enc sz e w base' v xs:=by
 refine ⟨h.1,?_⟩
 rcases h.2 with h | ⟨g,cap,cur,hv,h0,hg,h1⟩
 ·exact .inl h
 ·exact .inr ⟨g,cap,cur,hv,by omega,hg,h1⟩
end
theorem Row.drewN {α:Type} {enc:α→List Value} {sz:Nat} {w:World} {xs:List α} {B:Nat} {A:Option Addr} (h:Row enc sz w B A xs) (n:Nat):Row enc sz (w.drewN n) B A xs:=h
theorem below_drewN' {B:Nat} {a w:World} (h:Below B a w) (n:Nat):Below B a (w.drewN n):=⟨h.os,h.tape,h.output,h.size,h.block⟩
section
variable {P:Program} (w:World) {α:Type} (enc:α→List Value) (sz:Nat)
theorem append_none {base:Nat} {t ty e:TypeId} {i:TypeInfo} (ht:P.underlying t=some (.slice e)) (hi:P.info? e=some i) {v:Value} {n:Nat} {xs:List Value} (hown:w.ownsRow base e sz v n xs) (c:Nat) :
  (Builtin.append_ #[t,t] ty #[v,.slice none 0 c]).run P w=.ok v w:=by
 rcases hown.2 with ⟨rfl,rfl⟩ | ⟨g,cap,cur,rfl,_,_,hnc,_⟩
 ·simp [Builtin.append_,run_underlying ht,sizeOf,typeInfo,hi,Builtin.lenOf,Builtin.firstCells]
 ·simp [Builtin.append_,run_underlying ht,sizeOf,typeInfo,hi,Builtin.lenOf,Builtin.firstCells,hnc,storeCells]
theorem wp_app {ops:Array Oper} {rest:List Oper} {o:Oper} {a:Act} {Q:Exit→Act→World→Prop} (hgd:o.guard=none) (s x:Operand) (t:TypeId)
  (ho:o.op=.call { callee:=.builtin .append,args:=#[s,x],argTypes:=#[t,t] })
  (base:Nat) (e:TypeId) (bytes:Nat) (ht:P.underlying t=some (.slice e)) (hi:∃ i z,P.info? e=some i∧i.zero=some z∧i.size=sz∧i.bytes=bytes∧z.cells.size=sz) (hsz:0<sz)
  (hs:∀ x,(enc x).length=sz) (h1:∀ x,∀ u∈enc x,u.oneCell'=true)
  (v:Value) (xs:List α) (hv:a.eval s=v) (hown:Own enc sz e w base v xs)
  (B:Nat) (A:Option Addr) (m c:Nat) (ys:List α) (hm:m=ys.length) (hx:a.eval x=.slice A m c) (hr:Row enc sz w B A ys)
  (hbytes:(xs.length+ys.length)*bytes≤140737488355328) (h63:xs.length+ys.length≤140737488355328) (hbase:base≤w.heap.size)
  (h:∀ v' w',Own enc sz e w' base v' (xs++ys)→w.grownBy w' v.ownBlock→(v'.ownBlock=v.ownBlock∨v'.ownBlock=some w.heap.size)→(v'=.slice none 0 0↔v=.slice none 0 0∧ys=[])→wpList P ops Q rest (a.put o.dst v') w'):wpList P ops Q (o :: rest) a w:=by
 subst hm
 obtain ⟨i,z,hi,hz,hsize,hby,hzs⟩:=hi
 have key:∃ v' w',(Builtin.append_ #[t,t] o.type #[v,.slice A ys.length c]).run P w=.ok v' w'∧Own enc sz e w' base v' (xs++ys)∧w.grownBy w' v.ownBlock∧(v'.ownBlock=v.ownBlock∨v'.ownBlock=some w.heap.size)∧(v'=.slice none 0 0↔v=.slice none 0 0∧ys=[]):=by
  by_cases hy:A=none
  ·subst hy
   have:ys=[]:=by
    rcases hr with h | ⟨b,o,h,_⟩
    ·exact h
    ·cases h
   subst this
   exact ⟨v,w,append_none w sz ht hi hown c,by simpa using hown,World.grownBy.refl w _,.inl rfl,by simp⟩
  ·obtain ⟨ad,rfl⟩:=Option.ne_none_iff_exists'.1 hy
   have hcells:∀ j u,(ys.flatMap enc)[j]?=some u→w.cell? (ad.add j)=some u:=by
    intro j u hj
    obtain ⟨k,j',y,rfl,hj',hk,hu⟩:=flat_inv hs ys j u hj
    obtain ⟨b,o,e',_,hc⟩:=hr.at_ hk
    injection e' with e'
    subst e'
    rw [Addr.add_lit,←Nat.add_assoc]
    exact hc j' u hu
   obtain ⟨v',w',hrun,h2,h3,h5,h4⟩:=run_append_own_at (P:=P) w base t o.type e i z sz bytes ht hi hz hsize hby hzs hsz v xs.length (xs.flatMap enc) hown ad ys.length c (ys.flatMap enc) (flat_len hs ys) hcells
    (by intro u hu;obtain ⟨y,_,hu⟩:=List.mem_flatMap.1 hu;exact h1 y u hu) (by unfold maxLen;omega) hbytes hbase
   refine ⟨v',w',hrun,?_,h3,h4,h5.trans (by rw [List.length_eq_zero_iff])⟩
   unfold Own
   rw [List.length_append,List.flatMap_append]
   exact h2
 obtain ⟨v',w',hrun,h2,h3,h4,h5⟩:=key
 refine wpList_plain hgd fun _ hK=>?_
 unfold Oper.wp execOp
 simp only [ho,resolve,invoke,builtin,Sem.run_bind,Sem.run_pure,Result.andThen_ok,List.map_toArray,List.map_cons,List.map_nil,hv,hx,hrun]
 exact hK _ _ (h v' w' h2 h3 h4 h5)
end
theorem Own.cap {α:Type} {enc:α→List Value} {sz:Nat} {w:World} {A:Option Addr} {xs:List α} {e:TypeId} {base n c:Nat} (h:Own enc sz e w base (.slice A n c) xs):n=xs.length∧n≤c:=by
 rcases h.2 with ⟨h1,h2⟩ | ⟨g,cap,cur,hv,_,_,h1,_⟩
 ·injection h1 with _ h3 h4;omega
 ·injection hv with _ h3 h4;omega
section
variable {P:Program} (w:World) {α:Type} (enc:α→List Value) (sz:Nat)
theorem wp_cut {ops:Array Oper} {rest:List Oper} {o:Oper} {a:Act} {Q:Exit→Act→World→Prop} (hgd:o.guard=none) (x:Operand) (lo hi:Option Operand) (t:TypeId) (ho:o.op=.slice t x lo hi none)
  (e:TypeId) (ht:P.underlying t=some (.slice e)) (hsz:∀ w,(sizeOf e).run P w=.ok sz w) (B:Nat) (A:Option Addr) (n c:Nat) (hx:a.eval x=.slice A n c) (xs:List α) (hn:n=xs.length) (hr:Row enc sz w B A xs)
  (l h:Nat) (hl:lo.map a.eval=if lo.isSome then some (.int .i64 l) else none) (hl0:lo.isSome=false→l=0) (hh:hi.map a.eval=if hi.isSome then some (.int .i64 h) else none) (hh0:hi.isSome=false→h=n) (hlh:l≤h) (hhn:h≤n) (hnc:n≤c)
  (hK:∀ A',Row enc sz w B A' ((xs.take h).drop l)→wpList P ops Q rest (a.put o.dst (.slice A' (h-l) (c-l))) w):wpList P ops Q (o :: rest) a w:=by
 have ht':P.underlying t=some (.slice (P.elem t)):=by simp [Program.elem,ht]
 have he:P.elem t=e:=by simp [Program.elem,ht]
 have key:(Instr.slice t (.slice A n c) (lo.map a.eval) (hi.map a.eval) none).run P w=.ok (.slice (if c=l then A else A.map (·.add (l*sz))) (h-l) (c-l)) w:=by
  rw [hl,hh]
  cases lo <;> cases hi <;> simp only [Option.isSome_none,Option.isSome_some,if_true,Bool.false_eq_true,if_false] at hl0 hh0 ⊢
  ·rw [run_slice_all w t A n c ht',he,hsz]
   have:=hl0 trivial;have:=hh0 trivial;subst_vars;rfl
  ·rw [run_slice_h w t A n c ht' .i64 h (by omega) (by omega),he,hsz]
   have:=hl0 trivial;subst this
   simp [Result.andThen,sliced]
  ·rw [run_slice_l w t A n c ht' .i64 l (by omega) (by have:=hh0 trivial;omega),he,hsz]
   have:=hh0 trivial;subst this
   simp [Result.andThen,sliced]
  ·rw [run_slice_lh w t A n c ht' .i64 .i64 l h (by omega) (by omega) (by omega),he,hsz]
   simp [Result.andThen,sliced]
 refine wpList_plain hgd fun _ hk=>?_
 unfold Oper.wp execOp
 simp only [ho,hx,Option.map_none,run_sliceAt_slice w t _ _ _ _ ht',Sem.run_bind,Sem.run_pure,Result.andThen_ok,key]
 exact hk _ _ (hK _ (hr.cut (by omega) (by omega)))
end
section
open Go.Maps
variable {P:Program} {k e t:TypeId}
end
section
variable {P:Program} {ops:Array Oper} {Q:Exit→Act→World→Prop} {md:Region.Mode} {S:World→Prop} {oi:Oper} {fuel:Nat} {listed l':Array Bool} {a a':Act} {w:World}
structure Tk (ops:Array Oper) (Q:Exit→Act→World→Prop) (md:Region.Mode) (S:World→Prop) (oi:Oper) (listed l':Array Bool) (a a':Act) (w:World) (i:Nat) (v:Value):Prop where
 hi:ops[i]?=some oi
 hl:listed.setIfInBounds i true=l'
 ha:a.put oi.dst v=a'
 hs:Region.noSelect ops=true
 hf:Region.free md ops listed i=true
 hr:(Region.ready md ops listed).contains i=true
 hQ:∀ c a w,Q (.panic c) (a.put oi.dst v) w→Q (.panic c) a w
 hS:S w
theorem tkm {i:Nat} {v:Value} (hi:ops[i]?=some oi:=by rfl) (hl:listed.setIfInBounds i true=l':=by (try simp only [Act.put,List.getElem_toArray,List.getElem_cons_succ,List.getElem_cons_zero,List.setIfInBounds_toArray,List.set_cons_zero,List.set_cons_succ]);exact rfl) (ha:a.put oi.dst v=a':=by (try simp only [Act.put,List.getElem_toArray,List.getElem_cons_succ,List.getElem_cons_zero,List.setIfInBounds_toArray,List.set_cons_zero,List.set_cons_succ]);exact rfl) (hs:Region.noSelect ops=true:=by kernel_rfl)
  (hf:Region.free md ops listed i=true:=by kernel_rfl) (hr:(Region.ready md ops listed).contains i=true:=by kernel_rfl) (hQ:∀ c a w,Q (.panic c) (a.put oi.dst v) w→Q (.panic c) a w:=by exact fun _ _ _ h=>h) (hS:S w:=by assumption):Tk ops Q md S oi listed l' a a' w i v:=⟨hi,hl,ha,hs,hf,hr,hQ,hS⟩
theorem tk (i:Nat) (v:Value) (hv:∀ w,S w→(execOp a.eval oi).run P w=.ok (.value v) w) (h:wpAnyH P md ops Q S fuel l' a' w) (hh:Tk ops Q md S oi listed l' a a' w i v:=by exact tkm)
  (hw:Region.wanted oi (yielded ops a.tmps)=true:=by rfl):wpAnyH P md ops Q S (fuel+1) listed a w :=
 wpAnyH_take hh.hi hh.hs hh.hf hh.hr hh.hQ (Or.inl ⟨hw,hv⟩) hh.hS (hh.hl▸hh.ha▸h)
theorem tks (i:Nat) (v:Value) (h:wpAnyH P md ops Q S fuel l' a' w) (hh:Tk ops Q md S oi listed l' a a' w i v:=by exact tkm)
  (hw:Region.wanted oi (yielded ops a.tmps)=true:=by rfl) (hv:∀ w,S w→(execOp a.eval oi).run P w=.ok (.value v) w:=by intro w hSw;go_simp):wpAnyH P md ops Q S (fuel+1) listed a w :=
 tk i v hv h hh hw
theorem tko (i:Nat) (h:wpAnyH P md ops Q S fuel l' a' w) (hh:Tk ops Q md S oi listed l' a a' w i undef:=by exact tkm) (hw:Region.wanted oi (yielded ops a.tmps)=false:=by rfl):wpAnyH P md ops Q S (fuel+1) listed a w :=
 wpAnyH_take hh.hi hh.hs hh.hf hh.hr hh.hQ (Or.inr ⟨hw,rfl⟩) hh.hS (hh.hl▸hh.ha▸h)
theorem rdy (i:Nat) (h:∀ K':Act→World→Prop,Shut (∀ a w,S w→(S w→wpAnyH P md ops Q S fuel (listed.setIfInBounds i true) a w)→K' a w)→if Region.wanted oi (yielded ops a.tmps)=true then Oper.wp P oi a w K' Q else K' (a.put oi.dst undef) w)
  (hr:Region.ready md ops listed=[i]:=by kernel_rfl) (hi:ops[i]?=some oi:=by rfl):wpAnyH P md ops Q S (fuel+1) listed a w :=
 wpAnyH_ready hr (by simp) (AllReadyH.cons hi h AllReadyH.nil)
theorem don (h:Q .normal a' w) (hr:Region.ready md ops listed=[]:=by kernel_rfl) (ha:a=a':=by (try simp only [Act.put,List.getElem_toArray,List.getElem_cons_succ,List.getElem_cons_zero,List.setIfInBounds_toArray,List.set_cons_zero,List.set_cons_succ]);exact rfl):wpAnyH P md ops Q S fuel listed a w:=wpAnyH_done hr (ha▸h) _
theorem hks {K:Act→World→Prop} {l0:Array Bool} (hK:Shut (∀ a w,S w→(S w→wpAnyH P md ops Q S fuel l0 a w)→K a w)) (hS:S w) (h:S w→wpAnyH P md ops Q S fuel l' a' w) (hl:l0=l':=by (try simp only [Act.put,List.getElem_toArray,List.getElem_cons_succ,List.getElem_cons_zero,List.setIfInBounds_toArray,List.set_cons_zero,List.set_cons_succ]);exact rfl) (ha:a=a':=by (try simp only [Act.put,List.getElem_toArray,List.getElem_cons_succ,List.getElem_cons_zero,List.setIfInBounds_toArray,List.set_cons_zero,List.set_cons_succ]);exact rfl):K a w :=
 hK.out _ _ hS fun h1=>by subst hl;subst ha;exact h h1
end
theorem ld {p:Prop} (h:p):Hid p:=Lib.hid h
section
variable {P:Program} (w:World) {α:Type} (enc:α→List Value) (sz:Nat)
theorem run_app {t ty:TypeId} (base:Nat) (e:TypeId) (bytes:Nat) (ht:P.underlying t=some (.slice e)) (hi:∃ i z,P.info? e=some i∧i.zero=some z∧i.size=sz∧i.bytes=bytes∧z.cells.size=sz) (hsz:0<sz)
  (hs:∀ x,(enc x).length=sz) (h1:∀ x,∀ u∈enc x,u.oneCell'=true)
  (v:Value) (xs:List α) (hown:Own enc sz e w base v xs)
  (B:Nat) (A:Option Addr) (c:Nat) (ys:List α) (hr:Row enc sz w B A ys)
  (hbytes:(xs.length+ys.length)*bytes≤140737488355328) (h63:xs.length+ys.length≤140737488355328) (hbase:base≤w.heap.size) :
  ∃ v' w',(Builtin.append_ #[t,t] ty #[v,.slice A ys.length c]).run P w=.ok v' w'∧Own enc sz e w' base v' (xs++ys)∧w.grownBy w' v.ownBlock∧(v'.ownBlock=v.ownBlock∨v'.ownBlock=some w.heap.size)∧(v'=.slice none 0 0↔v=.slice none 0 0∧ys=[]):=by
 obtain ⟨i,z,hi,hz,hsize,hby,hzs⟩:=hi
 by_cases hy:A=none
 ·subst hy
  have:ys=[]:=by
   rcases hr with h | ⟨b,o,h,_⟩
   ·exact h
   ·cases h
  subst this
  exact ⟨v,w,append_none w sz ht hi hown c,by simpa using hown,World.grownBy.refl w _,.inl rfl,by simp⟩
 ·obtain ⟨ad,rfl⟩:=Option.ne_none_iff_exists'.1 hy
  have hcells:∀ j u,(ys.flatMap enc)[j]?=some u→w.cell? (ad.add j)=some u:=by
   intro j u hj
   obtain ⟨k,j',y,rfl,hj',hk,hu⟩:=flat_inv hs ys j u hj
   obtain ⟨b,o,e',_,hc⟩:=hr.at_ hk
   injection e' with e'
   subst e'
   rw [Addr.add_lit,←Nat.add_assoc]
   exact hc j' u hu
  obtain ⟨v',w',hrun,h2,h3,h5,h4⟩:=run_append_own_at (P:=P) w base t ty e i z sz bytes ht hi hz hsize hby hzs hsz v xs.length (xs.flatMap enc) hown ad ys.length c (ys.flatMap enc) (flat_len hs ys) hcells
   (by intro u hu;obtain ⟨y,_,hu⟩:=List.mem_flatMap.1 hu;exact h1 y u hu) (by unfold maxLen;omega) hbytes hbase
  refine ⟨v',w',hrun,?_,h3,h4,h5.trans (by rw [List.length_eq_zero_iff])⟩
  unfold Own
  rw [List.length_append,List.flatMap_append]
  exact h2
theorem step_app {ops:Array Oper} {o:Oper} {a:Act} {K:Act→World→Prop} {Q:Exit→Act→World→Prop} {E:Prop} (hgd:o.guard=none) (s x:Operand) (t:TypeId)
  (ho:o.op=.call { callee:=.builtin .append,args:=#[s,x],argTypes:=#[t,t] })
  (base:Nat) (e:TypeId) (bytes:Nat) (ht:P.underlying t=some (.slice e)) (hi:∃ i z,P.info? e=some i∧i.zero=some z∧i.size=sz∧i.bytes=bytes∧z.cells.size=sz) (hsz:0<sz)
  (hs:∀ x,(enc x).length=sz) (h1:∀ x,∀ u∈enc x,u.oneCell'=true)
  (v:Value) (xs:List α) (hv:a.eval s=v) (hown:Own enc sz e w base v xs)
  (B:Nat) (A:Option Addr) (m c:Nat) (ys:List α) (hm:m=ys.length) (hx:a.eval x=.slice A m c) (hr:Row enc sz w B A ys)
  (hbytes:(xs.length+ys.length)*bytes≤140737488355328) (h63:xs.length+ys.length≤140737488355328) (hbase:base≤w.heap.size)
  (h:∀ v' w',Own enc sz e w' base v' (xs++ys)→w.grownBy w' v.ownBlock→(v'.ownBlock=v.ownBlock∨v'.ownBlock=some w.heap.size)→(v'=.slice none 0 0↔v=.slice none 0 0∧ys=[])→K (a.put o.dst v') w') :
  if Region.wanted o (yielded ops a.tmps)=true then Oper.wp P o a w K Q else E:=by
 have hw:Region.wanted o (yielded ops a.tmps)=true:=by simp [Region.wanted,hgd]
 rw [if_pos hw]
 subst hm
 obtain ⟨v',w',hrun,h2,h3,h4,h5⟩:=run_app (P:=P) w enc sz (ty:=o.type) base e bytes ht hi hsz hs h1 v xs hown B A c ys hr hbytes h63 hbase
 unfold Oper.wp execOp
 simp only [ho,resolve,invoke,builtin,Sem.run_bind,Sem.run_pure,Result.andThen_ok,List.map_toArray,List.map_cons,List.map_nil,hv,hx,hrun]
 exact h v' w' h2 h3 h4 h5
end
structure LE where
 idx:Int
 term:Int
 A:Option Addr
 n:Nat
 c:Nat
def encLE (x:LE):List Value:=[.int .i64 x.idx,.int .i64 x.term,.slice x.A x.n x.c]
def encB (x:Int):List Value:=[.int .u8 x]
def encI (x:Int):List Value:=[.int .i64 x]
theorem len_LE (x:LE):(encLE x).length=3:=rfl
theorem len_B (x:Int):(encB x).length=1:=rfl
theorem len_I (x:Int):(encI x).length=1:=rfl
theorem one_LE (x:LE):∀ u∈encLE x,u.oneCell'=true:=by
 intro u hu
 simp only [encLE,List.mem_cons,List.not_mem_nil,or_false] at hu
 rcases hu with rfl | rfl | rfl <;> rfl
theorem one_B (x:Int):∀ u∈encB x,u.oneCell'=true:=by
 intro u hu
 simp only [encB,List.mem_cons,List.not_mem_nil,or_false] at hu
 subst hu;rfl
theorem one_I (x:Int):∀ u∈encI x,u.oneCell'=true:=by
 intro u hu
 simp only [encI,List.mem_cons,List.not_mem_nil,or_false] at hu
 subst hu;rfl
structure E where
 idx:Int
 term:Int
 data:List Int
def con (p:LE×List Int):E:=⟨p.1.idx,p.1.term,p.2⟩
abbrev Bytes (w:World) (B:Nat) (A:Option Addr) (xs:List Int):Prop:=Row encB 1 w B A xs
structure Ents (w:World) (B:Nat) (A:Option Addr) (ps:List (LE×List Int)):Prop where
 row:Row encLE 3 w B A (ps.map (·.1))
 each:∀ p∈ps,Bytes w B p.1.A p.2∧p.1.n=p.2.length∧p.2.length≤140737488351232
theorem Ents.keep {w w':World} {B:Nat} {A:Option Addr} {ps:List (LE×List Int)} (h:Ents w B A ps) (hb:∀ p:Addr,p.block<B→w'.cell? p=w.cell? p):Ents w' B A ps :=
 ⟨h.row.keep hb,fun p hp=>⟨(h.each p hp).1.keep hb,(h.each p hp).2⟩⟩
theorem Ents.below {w w':World} {B:Nat} {A:Option Addr} {ps:List (LE×List Int)} (h:Ents w B A ps) (hb:Below B w w'):Ents w' B A ps:=h.keep fun _ hp=>hb.cell hp
theorem Ents.more {w:World} {B B':Nat} {A:Option Addr} {ps:List (LE×List Int)} (h:Ents w B A ps) (hB:B≤B'):Ents w B' A ps :=
 ⟨h.row.more hB,fun p hp=>⟨(h.each p hp).1.more hB,(h.each p hp).2⟩⟩
theorem info5:∃ i z,Tryz.prog.info? 5=some i∧i.zero=some z∧i.size=1∧i.bytes=1∧z.cells.size=1:=by
 have h:(Tryz.prog.info? 5).map (fun i=>(i.zero,i.size,i.bytes))=some (some (.int .u8 0),1,1):=by kernel_rfl
 obtain ⟨i,hi,h0,h1,h2⟩:=info_parts h
 exact ⟨i,_,hi,h0,h1,h2,rfl⟩
theorem info67:∃ i z,Tryz.prog.info? 67=some i∧i.zero=some z∧i.size=3∧i.bytes=40∧z.cells.size=3:=by
 have h:(Tryz.prog.info? 67).map (fun i=>(i.zero,i.size,i.bytes))=some (some (.agg #[.int .i64 0,.int .i64 0,.slice none 0 0]),3,40):=by kernel_rfl
 obtain ⟨i,hi,h0,h1,h2⟩:=info_parts h
 exact ⟨i,_,hi,h0,h1,h2,rfl⟩
set_option maxHeartbeats 1000000 in
theorem bclone_any (A:Option Addr) (n c:Nat) (xs:List Int) (w:World) (hx:Bytes w w.heap.size A xs) (hl:n=xs.length) (hn:xs.length≤140737488351232) :
  Calls Tryz.prog 79 #[.slice A n c] w fun e w'=>∃ v,e=.returned v∧Own encB 1 5 w' w.heap.size v xs∧Below w.heap.size w w':=by
 subst hl
 have q:∀ (w:World) (a:Option Addr) (n c n' c':Nat),(binOp .eql 65 (.slice a n c) (.slice none n' c')).run Tryz.prog w=.ok (.bool a.isNone) w:=fun w a n c n' c'=>Lib.run_eql_slice_nil w _ _ a n c n' c' Tryz.underlying65
 rcases A with _ | a
 ·have:xs=[]:=by
   rcases hx with h | ⟨b,o,h,_⟩
   ·exact h
   ·cases h
  subst this
  go_enter Tryz.func79,Tryz.ntmps79
  go_wp2
  go_ret
  exact ⟨_,rfl,Own.nil,Below.refl _ _⟩
 ·have hmade:Own encB 1 5 (w.alloc (.cells #[] 5)) w.heap.size (.slice (some ⟨w.heap.size,0,none⟩) 0 0) []:=World.ownsRow_made w #[] 0 (Nat.le_refl _) (Nat.zero_le _) (by simp)
  have hx':Bytes (w.alloc (.cells #[] 5)) w.heap.size (some a) xs:=hx.alloc (Nat.le_refl _) _
  go_enter Tryz.func79,Tryz.ntmps79
  go_wp2_with (at_builtin;refine wp_app _ encB 1 rfl _ _ 65 rfl w.heap.size 5 1 Tryz.underlying65 info5 (by omega) len_B one_B (.slice (some ⟨w.heap.size,0,none⟩) 0 0) [] rfl hmade w.heap.size (some a) _ _ xs rfl rfl hx' (by simp;omega) (by simp;omega) (by simp) ?_;intro v1 w1 hown1 hg1 hat1 _)
  go_ret
  exact ⟨_,rfl,by simpa using hown1,((Below.refl _ _).alloc (Nat.le_refl _) _).grown hg1 (by simp) (by intro k hk;simp [Value.ownBlock] at hk;omega)⟩
structure OEnts (w:World) (base:Nat) (v:Value) (qs:List (LE×List Int)):Prop where
 own:Own encLE 3 67 w base v (qs.map (·.1))
 each:∀ q∈qs,Own encB 1 5 w base (.slice q.1.A q.1.n q.1.c) q.2∧((Value.slice q.1.A q.1.n q.1.c).ownBlock=none∨(Value.slice q.1.A q.1.n q.1.c).ownBlock≠v.ownBlock)∧q.2.length≤140737488351232
theorem OEnts.nil {w:World} {base:Nat}:OEnts w base (.slice none 0 0) []:=⟨Own.nil,by simp⟩
theorem OEnts.alloc {w:World} {base:Nat} {v:Value} {qs:List (LE×List Int)} (h:OEnts w base v qs) (o:Obj):OEnts (w.alloc o) base v qs :=
 ⟨h.own.alloc o,fun q hq=>⟨(h.each q hq).1.alloc o,(h.each q hq).2⟩⟩
theorem OEnts.below {w w':World} {base B:Nat} {v:Value} {qs:List (LE×List Int)} (h:OEnts w base v qs) (hb:Below B w w') (hB:w.heap.size≤B):OEnts w' base v qs :=
 ⟨h.own.below hb hB,fun q hq=>⟨(h.each q hq).1.below hb hB,(h.each q hq).2⟩⟩
theorem OEnts.weaken {w:World} {base base':Nat} {v:Value} {qs:List (LE×List Int)} (h:OEnts w base v qs) (hb:base'≤base):OEnts w base' v qs :=
 ⟨h.own.weaken hb,fun q hq=>⟨(h.each q hq).1.weaken hb,(h.each q hq).2⟩⟩
theorem OEnts.ents {w:World} {base c n:Nat} {A:Option Addr} {qs:List (LE×List Int)} (h:OEnts w base (.slice A n c) qs):Ents w w.heap.size A qs:=by
 have hl:=(Own.cap h.own).1
 subst hl
 refine ⟨h.own.row len_LE,fun q hq=>?_⟩
 have h1:=(h.each q hq).1
 have h2:=(Own.cap h1).1
 have h1':Own encB 1 5 w base (.slice q.1.A q.2.length q.1.c) q.2:=by rw [←h2];exact h1
 exact ⟨h1'.row len_B,h2,(h.each q hq).2.2⟩
theorem ents_at {w:World} {B k:Nat} {A:Option Addr} {ps:List (LE×List Int)} {p:LE×List Int} (h:Ents w B A ps) (hk:ps[k]?=some p) :
  ∃ b o,A=some ⟨b,o,none⟩∧b<B∧w.cell? ⟨b,o+k*3,none⟩=some (.int .i64 p.1.idx)∧w.cell? ⟨b,o+k*3+1,none⟩=some (.int .i64 p.1.term)∧w.cell? ⟨b,o+k*3+2,none⟩=some (.slice p.1.A p.1.n p.1.c):=by
 obtain ⟨b,o,hA,hb,hc⟩:=h.row.at_ (k:=k) (x:=p.1) (by rw [List.getElem?_map,hk];rfl)
 exact ⟨b,o,hA,hb,hc 0 _ rfl,hc 1 _ rfl,hc 2 _ rfl⟩
theorem row_one_LE (w:World) (x:LE) (g:Nat) (hg:g=w.heap.size):Row encLE 3 (w.alloc (.cells #[.int .i64 x.idx,.int .i64 x.term,.slice x.A x.n x.c] 67)) (g+1) (some ⟨g,0,none⟩) [x] :=
 .inr ⟨_,_,rfl,by omega,fun k y hk j v hv=>by
  subst hg
  have hk0:k=0:=by have:=(List.getElem?_eq_some_iff.1 hk).1;simp at this;exact this
  subst hk0
  simp at hk;subst hk
  match j,hv with
  | 0,hv=>simp [encLE] at hv;subst hv;simp
  | 1,hv=>simp [encLE] at hv;subst hv;simp
  | 2,hv=>simp [encLE] at hv;subst hv;simp⟩
theorem World.alloc_at (w:World) (o:Obj):(w.alloc o).heap[w.heap.size]?=some o:=by
 unfold World.alloc;simp
theorem World.alloc_size (w:World) (o:Obj):(w.alloc o).heap.size=w.heap.size+1:=by
 simp
theorem frozen_block {w:World} {b:Nat} {arr:Array Value} {t:TypeId} (h:w.heap[b]?=some (.cells arr t (0,0))) (o:Nat):w.frozen? ⟨b,o,none⟩=false:=by
 simp [World.frozen?,h]
theorem cell_block {w:World} {b:Nat} {arr:Array Value} {t:TypeId} (h:w.heap[b]?=some (.cells arr t (0,0))) (o:Nat) (v:Value) (hv:arr[o]?=some v):w.cell? ⟨b,o,none⟩=some v:=by
 simp [World.cell?,h,hv]
theorem OEnts.app {w w':World} {base:Nat} {v v':Value} {qs rs:List (LE×List Int)} (h:OEnts w base v qs)
  (hr:∀ q∈rs,Own encB 1 5 w base (.slice q.1.A q.1.n q.1.c) q.2∧((Value.slice q.1.A q.1.n q.1.c).ownBlock=none∨(Value.slice q.1.A q.1.n q.1.c).ownBlock≠v.ownBlock)∧q.2.length≤140737488351232)
  (hown:Own encLE 3 67 w' base v' (qs.map (·.1)++rs.map (·.1))) (hg:w.grownBy w' v.ownBlock) (hv:v'.ownBlock=v.ownBlock∨v'.ownBlock=some w.heap.size):OEnts w' base v' (qs++rs):=by
 refine ⟨by rw [List.map_append];exact hown,fun q hq=>?_⟩
 have hq':Own encB 1 5 w base (.slice q.1.A q.1.n q.1.c) q.2∧((Value.slice q.1.A q.1.n q.1.c).ownBlock=none∨(Value.slice q.1.A q.1.n q.1.c).ownBlock≠v.ownBlock)∧q.2.length≤140737488351232:=by
  rcases List.mem_append.1 hq with hq | hq
  ·exact h.each q hq
  ·exact hr q hq
 obtain ⟨h1,h2,h3⟩:=hq'
 refine ⟨h1.kept hg h2,?_,h3⟩
 rcases h2 with h2 | h2
 ·exact .inl h2
 ·rcases hv with hv | hv
  ·right;rw [hv];exact h2
  ·right;rw [hv];intro e;exact absurd (h1.lt _ e).2 (by omega)
theorem take_map_snoc {ps qs:List (LE×List Int)} {k:Nat} {p q:LE×List Int} (hk:ps[k]?=some p) (h:qs.map con=(ps.take k).map con) (hq:con q=con p):(qs++[q]).map con=(ps.take (k+1)).map con:=by
 rw [List.map_append,h,List.take_add_one,hk,List.map_append]
 simp [hq]
set_option maxRecDepth 100000 in
set_option maxHeartbeats 4000000 in
theorem copied_any (A:Option Addr) (n c:Nat) (ps:List (LE×List Int)) (w:World) (hx:Ents w w.heap.size A ps) (hn:n=ps.length) (hl:ps.length≤100000) :
  Calls Tryz.prog 58 #[.slice A n c] w fun e w'=>∃ v qs,e=.returned v∧OEnts w' w.heap.size v qs∧qs.map con=ps.map con∧Below w.heap.size w w':=by
 subst hn
 go_enter Tryz.func58,Tryz.ntmps58
 go_wp2
 go_loopw [3,8] (fun l i wr=>∃ (k:Nat) (qs:List (LE×List Int)),i=.int .i64 k∧k≤ps.length∧OEnts wr w.heap.size l qs∧qs.map con=(ps.take k).map con∧Below w.heap.size w wr) (fun _ i _=>ps.length-(intOf i).toNat)
 case atStart=>exact ⟨0,[],rfl,by omega,OEnts.nil,rfl,Below.refl _ _⟩
 case round =>
  obtain ⟨k,qs,rfl,hk,hown,hq,hb⟩:=hrel
  by_cases hlt:k<ps.length
  ·have hpk:=List.getElem?_eq_getElem hlt
   obtain ⟨ba,o,rfl,_,c0,c1,c2⟩:=ents_at (hx.below hb) hpk
   obtain ⟨hB,hnl,hlen⟩:=(hx.below hb).each _ (List.getElem_mem hlt)
   have hsz:=hb.size
   have hql:qs.length=k:=by have:=congrArg List.length hq;simp at this;omega
   have HP:=ld hpk
   clear hpk
   generalize ps[k]=p at c0 c1 c2 hB hnl hlen HP
   have hB':∀ ob,Bytes (wr.alloc ob) (wr.heap.size+1) p.1.A p.2:=fun ob=>((hB.more hsz).alloc (Nat.le_refl _) ob).more (by omega)
   go_wp2_with (first
    | (go_at_call 79;refine (bclone_any _ _ _ p.2 _ (by simpa using hB' _) (by first | rfl | exact hnl) hlen).mono ?_;rintro e w1 ⟨v1,rfl,hown1,hb1⟩;obtain ⟨A1,c1',rfl⟩:=hown1.form;have hblk:=(hb1.block wr.heap.size (by simp)).trans (World.alloc_at _ _);have hf:=frozen_block hblk;have d0:=cell_block hblk 0 _ rfl;have d1:=cell_block hblk 1 _ rfl;have d2:=cell_block hblk 2 _ rfl;simp only [World.alloc_size] at hown1 hb1;have hB1:∀ u,Below wr.heap.size wr (w1.setCell ⟨wr.heap.size,2,none⟩ u):=(fun u=>(((Below.refl _ _).alloc (Nat.le_refl _) _).trans (hb1.mono (by omega))).setCell (p:=⟨wr.heap.size,2,none⟩) (Nat.le_refl _) u);have hO2:=fun u o=>(hown.below (hB1 u) (Nat.le_refl _)).alloc o)
    | (at_builtin;refine wp_app _ encLE 3 rfl _ _ 46 rfl w.heap.size 67 40 Tryz.underlying46 info67 (by omega) len_LE one_LE _ (qs.map (·.1)) rfl (hO2 _ _).own _ _ 1 1 [⟨p.1.idx,p.1.term,A1,p.2.length,c1'⟩] rfl rfl (row_one_LE _ ⟨p.1.idx,p.1.term,A1,p.2.length,c1'⟩ _ (by simp)) (by simp;omega) (by simp;omega) (by have:=(hB1 (.slice A1 p.2.length c1')).size;simp at this ⊢;omega) ?_;intro v3 w3 hown3 hg3 hat3 _))
   have hsz1:=hb1.size
   simp only [World.alloc_size] at hsz1
   have hbw:∀ u o,Below w.heap.size w ((w1.setCell ⟨wr.heap.size,2,none⟩ u).alloc o):=fun u o=>(hb.trans ((hB1 u).mono hsz)).alloc (by simp;omega) _
   have hb3:=(hbw _ _).grown hg3 (by simp;omega) (fun j hj=>(hown.own.lt j hj).1)
   have hlen1:((⟨p.1.idx,p.1.term,A1,p.2.length,c1'⟩:LE),p.2).2.length≤140737488351232:=hlen
   go_roundw
   case rel =>
    refine ⟨k+1,qs++[(⟨p.1.idx,p.1.term,A1,p.2.length,c1'⟩,p.2)],by go_num,by omega,(hO2 _ _).app (rs:=[(⟨p.1.idx,p.1.term,A1,p.2.length,c1'⟩,p.2)]) ?_ hown3 hg3 hat3,take_map_snoc HP.out hq rfl,hb3⟩
    intro q hq
    simp only [List.mem_singleton] at hq
    subst hq
    refine ⟨?_,?_,hlen⟩
    ·exact Own.weaken (Own.alloc (show Own encB 1 5 (w1.setCell ⟨wr.heap.size,2,none⟩ _) (wr.heap.size+1) _ p.2 from ownsRow_setCell_below hown1 (Nat.lt_succ_self _) _) _) (by omega)
    ·cases A1 with
     | none=>exact .inl rfl
     | some a1 =>
      right
      intro e
      have h1:=(hown1.lt a1.block rfl).1
      have h2:=(hown.own.lt _ e.symm).2
      omega
   case measure=>simp [intOf];omega
  ·have HZ:=ld (show ps.take k=ps from List.take_of_length_le (by omega))
   go_wp2
   go_ret
   exact ⟨_,_,rfl,hown,by rw [hq,HZ.out],hb⟩
end Go.Proofs.YtocogcgnahbpkaaGreat
