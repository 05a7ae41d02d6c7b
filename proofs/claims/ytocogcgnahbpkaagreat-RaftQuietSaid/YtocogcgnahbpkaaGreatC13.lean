import Derived.Maps.RangeWalk
import Derived.BigRegion
import Derived.Test.YtocogcgnahbpkaaGreatC12
namespace Go.Proofs.YtocogcgnahbpkaaGreat
open Go.RowKit
structure Chg (F:Nat→Prop) (w w':World):Prop where
 os:w'.os=w.os
 tape:w'.tape=w.tape
 output:w'.output=w.output
 size:w.heap.size≤w'.heap.size
 block:∀ k,k<w.heap.size→¬ F k→w'.heap[k]?=w.heap[k]?
section
variable {F G:Nat→Prop} {w w' a b c:World}
theorem Chg.refl:Chg F w w:=⟨rfl,rfl,rfl,Nat.le_refl _,fun _ _ _=>rfl⟩
theorem Chg.trans2 (h:Chg F a b) (k:Chg G b c) (hs:∀ i,G i→F i∨a.heap.size≤i):Chg F a c :=
 ⟨k.os.trans h.os,k.tape.trans h.tape,k.output.trans h.output,Nat.le_trans h.size k.size,fun i hi hn =>
  (k.block i (Nat.lt_of_lt_of_le hi h.size) (fun hg=>by rcases hs i hg with h1 | h1;exact hn h1;omega)).trans (h.block i hi hn)⟩
theorem Chg.trans (h:Chg F a b) (k:Chg F b c):Chg F a c:=h.trans2 k fun _ h=>.inl h
theorem Chg.mono (h:Chg F a b) (hs:∀ i,F i→G i∨a.heap.size≤i):Chg G a b:=⟨h.os,h.tape,h.output,h.size,fun i hi hn=>h.block i hi fun hf=>by rcases hs i hf with h1 | h1;exact hn h1;omega⟩
theorem Chg.drewN (h:Chg F a b) (n:Nat):Chg F a (b.drewN n):=⟨h.os,h.tape,h.output,h.size,h.block⟩
theorem Chg.drew (h:Chg F a b):Chg F a b.drew:=⟨h.os,h.tape,h.output,h.size,h.block⟩
theorem Chg.alloc (h:Chg F a b) (o:Obj):Chg F a (b.alloc o) :=
 ⟨h.os,h.tape,h.output,by have:=h.size;simp;omega,fun i hi hn=>(Below.heap_alloc _ _ _ (by have:=h.size;omega)).trans (h.block i hi hn)⟩
theorem Chg.setCell (h:Chg F a b) {p:Addr} (hp:F p.block∨a.heap.size≤p.block) (u:Value):Chg F a (b.setCell p u) :=
 ⟨h.os,h.tape,h.output,by have:=h.size;simp [World.setCell];omega,fun i hi hn=>(Below.heap_setCell _ _ _ _ (fun e=>by subst e;rcases hp with h1 | h1;exact hn h1;omega)).trans (h.block i hi hn)⟩
theorem Chg.grown {row:Option Nat} (h:Chg F a b) (hg:b.grownBy c row) (hr:∀ k,row=some k→F k∨a.heap.size≤k):Chg F a c :=
 ⟨hg.os.trans h.os,hg.tape.trans h.tape,hg.output.trans h.output,Nat.le_trans h.size hg.size,fun i hi hn=>(hg.block i (Nat.lt_of_lt_of_le hi h.size) (fun e=>by rcases hr i e.symm with h1 | h1;exact hn h1;omega)).trans (h.block i hi hn)⟩
theorem Chg.belowN (h:Chg F a b) {B:Nat} (hb:Below B b c) (hB:a.heap.size≤B):Chg F a c :=
 ⟨hb.os.trans h.os,hb.tape.trans h.tape,hb.output.trans h.output,Nat.le_trans h.size hb.size,fun i hi hn=>(hb.block i (by omega)).trans (h.block i hi hn)⟩
theorem Chg.below (h:Chg F a b) (hb:Below b.heap.size b c):Chg F a c:=h.belowN hb h.size
theorem Chg.ofBelow (hb:Below a.heap.size a b):Chg F a b:=Chg.refl.below hb
theorem Chg.toBelow (h:Chg F a b) (hF:∀ i,F i→a.heap.size≤i):Below a.heap.size a b:=⟨h.os,h.tape,h.output,h.size,fun i hi=>h.block i hi fun hf=>by have:=hF i hf;omega⟩
theorem Chg.keep (h:Chg F a b) {i:Nat} (hi:i<a.heap.size) (hn:¬ F i):b.heap[i]?=a.heap[i]?:=h.block i hi hn
end
theorem block_lt {w:World} {b:Nat} {o:Obj} (h:w.heap[b]?=some o):b<w.heap.size:=(Array.getElem?_eq_some_iff.1 h).1
theorem block_alloc {w:World} {b:Nat} {o:Obj} (h:w.heap[b]?=some o) (o':Obj):(w.alloc o').heap[b]?=some o:=(Below.heap_alloc _ _ _ (block_lt h)).trans h
theorem block_other {w:World} {b:Nat} {o:Obj} (h:w.heap[b]?=some o) (p:Addr) (u:Value) (hne:b≠p.block):(w.setCell p u).heap[b]?=some o:=(Below.heap_setCell _ _ _ _ hne).trans h
theorem block_setCell {w:World} {b o:Nat} {arr:Array Value} {t:TypeId} {fz:Nat×Nat} (h:w.heap[b]?=some (.cells arr t fz)) (u:Value):(w.setCell ⟨b,o,none⟩ u).heap[b]?=some (.cells (arr.setIfInBounds o u) t fz):=by
 simp only [World.setCell,Array.getElem?_modify,if_true,h,Option.map_some,Option.isSome_none,Bool.false_eq_true,if_false]
theorem Own.same {α:Type} {enc:α→List Value} {sz:Nat} {e:TypeId} {base:Nat} {w w':World} {v:Value} {xs:List α} (h:Own enc sz e w base v xs) (hk:∀ k,v.ownBlock=some k→w'.heap[k]?=w.heap[k]?):Own enc sz e w' base v xs:=by
 refine ⟨h.1,?_⟩
 rcases h.2 with h | ⟨g,cap,cur,rfl,h0,hg,h1⟩
 ·exact .inl h
 ·exact .inr ⟨g,cap,cur,rfl,h0,(hk g rfl).trans hg,h1⟩
theorem Own.typed {α:Type} {enc:α→List Value} {sz:Nat} {e:TypeId} {base:Nat} {w:World} {v:Value} {xs:List α} (h:Own enc sz e w base v xs):∀ k,v.ownBlock=some k→∃ cur,w.heap[k]?=some (.cells cur e (0,0)):=by
 intro k hk
 rcases h.2 with ⟨rfl,_⟩ | ⟨g,cap,cur,rfl,h0,hg,h1⟩
 ·cases hk
 ·cases hk;exact ⟨_,hg⟩
section
variable {α β:Type} [DecidableEq α]
def kget (l:List (α×β)) (x:α):Option β:=(l.find? fun p=>p.1=x).map (·.2)
def kput (l:List (α×β)) (x:α) (v:β):List (α×β):=if x∈l.map (·.1) then l.map (fun p=>if p.1=x then (x,v) else p) else l++[(x,v)]
def kdel (l:List (α×β)) (x:α):List (α×β):=l.filter fun p=>p.1≠x
end
structure KeyEnc (P:Program) (k:TypeId) {α:Type} (enc:α→Value) (ok:α→Prop):Prop where
 keyed:Maps.Keyed P k
 reads:∀ x,ok x→∃ kl,keyOf P k (enc x)=some kl
 inj:∀ x y,enc x=enc y→x=y
structure MapG (P:Program) (k:TypeId) {α β:Type} (kenc:α→Value) (venc:β→Value) (w:World) (b:Nat) (l:List (α×β)):Prop where
 ex:∃ es clock,w.heap[b]?=some (.map es clock)∧MapKept.Stamped es clock∧(∀ e∈es.toList,∃ kl,keyOf P k e.key=some kl)∧es.toList.map (fun e=>(e.key,e.val))=l.map fun p=>(kenc p.1,venc p.2)
section
variable {P:Program} {k e t:TypeId} {α β:Type} {kenc:α→Value} {venc:β→Value} {ok:α→Prop} {w w':World} {b:Nat} {l:List (α×β)}
theorem MapG.made (w:World):MapG P k kenc venc (w.alloc (.map #[] 0)) w.heap.size ([]:List (α×β)) :=
 ⟨_,_,World.alloc_at w _,MapKept.stamped_empty 0,by simp,rfl⟩
theorem MapG.same (h:MapG P k kenc venc w b l) (hb:w'.heap[b]?=w.heap[b]?):MapG P k kenc venc w' b l:=by
 obtain ⟨es,c,h1,h2⟩:=h.ex;exact ⟨es,c,hb.trans h1,h2⟩
theorem MapG.lt (h:MapG P k kenc venc w b l):b<w.heap.size:=by
 obtain ⟨es,c,h1,h2⟩:=h.ex;exact block_lt h1
theorem MapG.alloc (h:MapG P k kenc venc w b l) (o:Obj):MapG P k kenc venc (w.alloc o) b l:=h.same (Below.heap_alloc _ _ _ h.lt)
theorem MapG.obj (h:MapG P k kenc venc w b l):∃ es c,w.heap[b]?=some (.map es c):=by
 obtain ⟨es,c,h1,_⟩:=h.ex;exact ⟨es,c,h1⟩
theorem MapG.ne (h:MapG P k kenc venc w b l) {b':Nat} {arr:Array Value} {t:TypeId} {fz:Nat×Nat} (h':w.heap[b']?=some (.cells arr t fz)):b≠b':=by
 rintro rfl
 obtain ⟨es,c,h1⟩:=h.obj
 rw [h'] at h1;cases h1
theorem find_pairs [DecidableEq α] (hinj:∀ x y,kenc x=kenc y→x=y) (x:α):∀ (es:List MapEntry) (l:List (α×β)),es.map (fun e=>(e.key,e.val))=l.map (fun p=>(kenc p.1,venc p.2)) →
  (∀ e∈es,e.key≠kenc x)→kget l x=none∧x ∉ l.map (·.1)
 | [],[],_,_=>by simp [kget]
 | [],_ :: _,h,_=>by simp at h
 | _ :: _,[],h,_=>by simp at h
 | e :: es,p :: l,h,hn=>by
  simp only [List.map_cons,List.cons.injEq,Prod.mk.injEq] at h
  obtain ⟨i1,i2⟩:=find_pairs hinj x es l h.2 (fun e' he'=>hn e' (by simp [he']))
  have hne:p.1≠x:=fun hp=>hn e (by simp) (by rw [h.1.1,hp])
  refine ⟨?_,?_⟩
  ·unfold kget at i1 ⊢
   rw [List.find?_cons_of_neg (by simpa using hne)];exact i1
  ·simp only [List.map_cons,List.mem_cons,not_or];exact ⟨fun e=>hne e.symm,i2⟩
theorem nodup_pairs {es:List MapEntry} {l:List (α×β)} (h:es.map (fun e=>(e.key,e.val))=l.map (fun p=>(kenc p.1,venc p.2))) (hn:(es.map (·.key)).Nodup):(l.map (·.1)).Nodup:=by
 have:es.map (·.key)=(l.map (·.1)).map kenc:=by
  have:=congrArg (List.map Prod.fst) h
  simpa [List.map_map,Function.comp_def] using this
 rw [this] at hn
 exact (List.pairwise_map.1 hn).imp fun hne e=>hne (by rw [e])
theorem MapG.nodup (h:MapG P k kenc venc w b l):(l.map (·.1)).Nodup:=by
 obtain ⟨es,c,_,hs,_,hl⟩:=h.ex
 exact nodup_pairs hl hs.2.2
theorem find_at [DecidableEq α] (x:α):∀ (j:Nat) (es:List MapEntry) (l:List (α×β)) (e0:MapEntry),es.map (fun e=>(e.key,e.val))=l.map (fun p=>(kenc p.1,venc p.2))→(∀ x y,kenc x=kenc y→x=y)→(l.map (·.1)).Nodup →
  es[j]?=some e0→e0.key=kenc x→∃ p,l[j]?=some p∧p.1=x∧e0.val=venc p.2∧kget l x=some p.2:=by
 intro j es l e0 h hinj hn hj hk
 have h1:=congrArg (fun l=>l[j]?) h
 simp only [List.getElem?_map,hj,Option.map_some] at h1
 cases hl:l[j]? with
 | none=>rw [hl] at h1;cases h1
 | some p =>
  rw [hl] at h1
  simp only [Option.map_some,Option.some.injEq,Prod.mk.injEq] at h1
  have hp:p.1=x:=hinj _ _ (by rw [←h1.1,hk])
  refine ⟨p,rfl,hp,h1.2,?_⟩
  have hm:p∈l:=List.mem_of_getElem? hl
  clear h h1 hj hk
  unfold kget
  have:∀ l:List (α×β),(l.map (·.1)).Nodup→p∈l→l.find? (fun q=>q.1=x)=some p:=by
   intro l hn hm
   induction l with
   | nil=>simp at hm
   | cons q l ih =>
    simp only [List.map_cons,List.nodup_cons] at hn
    rcases List.mem_cons.1 hm with rfl | hm
    ·simp [hp]
    ·have:q.1≠x:=fun e=>hn.1 (by rw [e,←hp];exact List.mem_map_of_mem hm)
     rw [List.find?_cons_of_neg (by simpa using this)]
     exact ih hn.2 hm
  rw [this l hn hm];rfl
theorem MapG.look [DecidableEq α] (K:KeyEnc P k kenc ok) (h:MapG P k kenc venc w b l) (ht:P.underlying t=some (.map k e)) (x:α) (hx:ok x) (z:Value) (hz:∀ w,(zeroValue e).run P w=.ok z w) :
  (Instr.lookup t (.map (some b)) (kenc x) false).run P w=.ok (match kget l x with | some v=>venc v | none=>z) w:=by
 obtain ⟨kl,hkey⟩:=K.reads x hx
 have hnd:=h.nodup
 obtain ⟨es,c,hb,hs,hks,hl⟩:=h.ex
 rcases K.keyed.find w hkey es.toList hks with ⟨h1,h2⟩ | ⟨j,e0,h1,h2,h3⟩
 ·rw [(find_pairs K.inj x es.toList l hl h2).1]
  simp [Instr.lookup,run_underlying ht,MapKept.run_getObj_map hb,K.keyed.check w _ hkey,h1,hz w]
 ·obtain ⟨p,_,_,hv,hg⟩:=find_at x j es.toList l e0 hl K.inj hnd h2 h3
  rw [hg]
  simp [Instr.lookup,run_underlying ht,MapKept.run_getObj_map hb,K.keyed.check w _ hkey,h1,hv]
theorem MapG.look_ok [DecidableEq α] (K:KeyEnc P k kenc ok) (h:MapG P k kenc venc w b l) (ht:P.underlying t=some (.map k e)) (x:α) (hx:ok x) (z:Value) (hz:∀ w,(zeroValue e).run P w=.ok z w) :
  (Instr.lookup t (.map (some b)) (kenc x) true).run P w=.ok (match kget l x with | some v=>.tuple #[venc v,.bool true] | none=>.tuple #[z,.bool false]) w:=by
 obtain ⟨kl,hkey⟩:=K.reads x hx
 have hnd:=h.nodup
 obtain ⟨es,c,hb,hs,hks,hl⟩:=h.ex
 rcases K.keyed.find w hkey es.toList hks with ⟨h1,h2⟩ | ⟨j,e0,h1,h2,h3⟩
 ·rw [(find_pairs K.inj x es.toList l hl h2).1]
  simp [Instr.lookup,run_underlying ht,MapKept.run_getObj_map hb,K.keyed.check w _ hkey,h1,hz w]
 ·obtain ⟨p,_,_,hv,hg⟩:=find_at x j es.toList l e0 hl K.inj hnd h2 h3
  rw [hg]
  simp [Instr.lookup,run_underlying ht,MapKept.run_getObj_map hb,K.keyed.check w _ hkey,h1,hv]
theorem run_look_nil (ht:P.underlying t=some (.map k e)) (K:Maps.Keyed P k) {key:Value} {kl:Lit} (hkey:keyOf P k key=some kl) (z:Value) (hz:∀ w,(zeroValue e).run P w=.ok z w) (w:World)
  (hnone:∀ w,(Instr.findKey k key ([]:List MapEntry)).run P w=.ok none w):(Instr.lookup t (.map none) key false).run P w=.ok z w:=by
 simp [Instr.lookup,run_underlying ht,K.check w _ hkey,hnone w,hz w]
theorem MapG.len (h:MapG P k kenc venc w b l) (ht:P.underlying t=some (.map k e)) (ty:TypeId):(Builtin.len_ #[t] ty #[.map (some b)]).run P w=.ok (.int .i64 l.length) w:=by
 obtain ⟨es,c,hb,_,_,hl⟩:=h.ex
 have:=congrArg List.length hl
 simp at this
 simp [Builtin.len_,run_underlying ht,MapKept.run_getObj_map hb,goInt,this]
theorem MapG.put [DecidableEq α] (K:KeyEnc P k kenc ok) (h:MapG P k kenc venc w b l) (ht:P.underlying t=some (.map k e)) (x:α) (hx:ok x) (v:β) :
  ∃ w',(Instr.mapUpdate t (.map (some b)) (kenc x) (venc v)).run P w=.ok () w'∧MapG P k kenc venc w' b (kput l x v)∧w.grownBy w' (some b)∧w'.heap.size=w.heap.size:=by
 obtain ⟨kl,hkey⟩:=K.reads x hx
 have hnd:=h.nodup
 obtain ⟨es,c,hb,hs,hks,hl⟩:=h.ex
 have gr:∀ o:Obj,w.grownBy (ChangeMaps.setBlock w b o) (some b):=fun o=>⟨rfl,rfl,rfl,by simp [ChangeMaps.setBlock],fun i _ hi=>by
  simp only [ChangeMaps.setBlock];rw [Array.getElem?_setIfInBounds_ne (fun e=>hi (by rw [e]))]⟩
 have at_:∀ o:Obj,(ChangeMaps.setBlock w b o).heap[b]?=some o:=fun o=>by
  simp only [ChangeMaps.setBlock];rw [Array.getElem?_setIfInBounds_self_of_lt (block_lt hb)]
 have sz:∀ o:Obj,(ChangeMaps.setBlock w b o).heap.size=w.heap.size:=fun o=>by simp [ChangeMaps.setBlock]
 rcases K.keyed.find w hkey es.toList hks with ⟨h1,h2⟩ | ⟨j,e0,h1,h2,h3⟩
 ·refine ⟨ChangeMaps.setBlock w b (.map (es.push ⟨kenc x,venc v,c⟩) (c+1)),?_,⟨_,_,at_ _,MapKept.stamped_push hs h2,?_,?_⟩,gr _,sz _⟩
  ·simp [Instr.mapUpdate,run_underlying ht,MapKept.run_getObj_map hb,K.keyed.check w false hkey,h1,MapKept.run_setObj_map _ hb,Result.andThen,ChangeMaps.setBlock]
  ·intro e' he'
   simp only [Array.toList_push,List.mem_append,List.mem_singleton] at he'
   rcases he' with he' | rfl
   ·exact hks e' he'
   ·exact ⟨kl,hkey⟩
  ·unfold kput
   rw [if_neg (find_pairs K.inj x es.toList l hl h2).2]
   simp [hl]
 ·obtain ⟨p,hp,hpx,hv,hg⟩:=find_at x j es.toList l e0 hl K.inj hnd h2 h3
  have hj:es[j]?=some e0:=by simpa using h2
  have hlist:(es.modify j (fun e'=>{ e' with key:=kenc x,val:=venc v })).toList=es.toList.set j { e0 with key:=kenc x,val:=venc v }:=by rw [Array.toList_modify,ChangeMaps.modify_eq_set _ _ _ _ h2]
  have hkeyf:∀ e',es[j]?=some e'→({ e' with key:=kenc x,val:=venc v }:MapEntry).key=e'.key:=fun e' he'=>by rw [hj] at he';cases he';exact h3.symm
  refine ⟨ChangeMaps.setBlock w b (.map (es.modify j (fun e'=>{ e' with key:=kenc x,val:=venc v })) c),?_,⟨_,_,at_ _,MapKept.stamped_modify hs _ _ (fun _ _=>rfl) (fun e' _ he'=>hkeyf e' he'),?_,?_⟩,gr _,sz _⟩
  ·simp [Instr.mapUpdate,run_underlying ht,MapKept.run_getObj_map hb,K.keyed.check w false hkey,h1,hj,h3,K.keyed.stays w hkey,MapKept.run_setObj_map _ hb,Result.andThen,ChangeMaps.setBlock]
  ·intro e' he'
   rw [hlist] at he'
   rcases List.mem_or_eq_of_mem_set he' with he' | rfl
   ·exact hks e' he'
   ·exact ⟨kl,hkey⟩
  ·have hmem:x∈l.map (·.1):=by rw [←hpx];exact List.mem_map_of_mem (List.mem_of_getElem? hp)
   unfold kput
   rw [if_pos hmem,hlist,List.map_set,hl]
   apply List.ext_getElem?
   intro i
   rw [List.getElem?_set]
   simp only [List.getElem?_map,Option.map_map,Function.comp_def,List.length_map]
   by_cases hij:j=i
   ·subst hij
    have hjl:j<l.length:=(List.getElem?_eq_some_iff.1 hp).1
    rw [if_pos rfl,if_pos hjl,hp]
    simp [hpx]
   ·rw [if_neg hij]
    cases hli:l[i]? with
    | none=>rfl
    | some q =>
     have hq:q.1≠x:=by
      intro e
      have h1:(l.map (·.1))[i]?=some x:=by simp [hli,e]
      have h2:(l.map (·.1))[j]?=some x:=by simp [hp,hpx]
      exact hij ((List.getElem?_inj (by simpa using (List.getElem?_eq_some_iff.1 hp).1) hnd).1 (h2.trans h1.symm))
     simp [hq]
theorem MapG.del [DecidableEq α] (K:KeyEnc P k kenc ok) (h:MapG P k kenc venc w b l) (ht:P.underlying t=some (.map k e)) (x:α) (hx:ok x) (ty:TypeId) :
  ∃ w',(Builtin.delete_ #[t,k] ty #[.map (some b),kenc x]).run P w=.ok (.tuple #[]) w'∧MapG P k kenc venc w' b (kdel l x)∧w.grownBy w' (some b)∧w'.heap.size=w.heap.size:=by
 obtain ⟨kl,hkey⟩:=K.reads x hx
 have hnd:=h.nodup
 obtain ⟨es,c,hb,hs,hks,hl⟩:=h.ex
 have gr:∀ o:Obj,w.grownBy (ChangeMaps.setBlock w b o) (some b):=fun o=>⟨rfl,rfl,rfl,by simp [ChangeMaps.setBlock],fun i _ hi=>by
  simp only [ChangeMaps.setBlock];rw [Array.getElem?_setIfInBounds_ne (fun e=>hi (by rw [e]))]⟩
 have at_:∀ o:Obj,(ChangeMaps.setBlock w b o).heap[b]?=some o:=fun o=>by
  simp only [ChangeMaps.setBlock];rw [Array.getElem?_setIfInBounds_self_of_lt (block_lt hb)]
 have sz:∀ o:Obj,(ChangeMaps.setBlock w b o).heap.size=w.heap.size:=fun o=>by simp [ChangeMaps.setBlock]
 rcases K.keyed.find w hkey es.toList hks with ⟨h1,h2⟩ | ⟨j,e0,h1,h2,h3⟩
 ·refine ⟨ChangeMaps.setBlock w b (.map es c),?_,⟨_,_,at_ _,hs,hks,?_⟩,gr _,sz _⟩
  ·simp [Builtin.delete_,run_underlying ht,MapKept.run_getObj_map hb,K.keyed.check w _ hkey,h1,MapKept.run_setObj_map _ hb,Result.andThen,ChangeMaps.setBlock]
  ·have hnm:=(find_pairs K.inj x es.toList l hl h2).2
   have:kdel l x=l:=by
    unfold kdel
    rw [List.filter_eq_self]
    intro p hp
    simp only [ne_eq,decide_not,Bool.not_eq_true',decide_eq_false_iff_not]
    exact fun e=>hnm (by rw [←e];exact List.mem_map_of_mem hp)
   rw [this];exact hl
 ·obtain ⟨p,hp,hpx,hv,hg⟩:=find_at x j es.toList l e0 hl K.inj hnd h2 h3
  have hjl:j<es.toList.length:=(List.getElem?_eq_some_iff.1 h2).1
  have hjs:j<es.size:=by simpa using hjl
  have hsub:(es.eraseIdxIfInBounds j).toList=es.toList.eraseIdx j:=by
   unfold Array.eraseIdxIfInBounds
   rw [dif_pos hjs]
   simp
  refine ⟨ChangeMaps.setBlock w b (.map (es.eraseIdxIfInBounds j) c),?_,⟨_,_,at_ _,MapKept.stamped_erase hs j,?_,?_⟩,gr _,sz _⟩
  ·simp [Builtin.delete_,run_underlying ht,MapKept.run_getObj_map hb,K.keyed.check w _ hkey,h1,MapKept.run_setObj_map _ hb,Result.andThen,ChangeMaps.setBlock]
  ·intro e' he'
   rw [hsub] at he'
   exact hks e' ((List.eraseIdx_sublist _ _).subset he')
  ·have he:kdel l x=l.eraseIdx j:=by
    unfold kdel
    have:=ChangeMaps.filter_eq_eraseIdx (fun p:α×β=>p.1==x) l j p hp (by simpa using hpx) ?_
    ·rw [←this]
     congr 1
     funext q
     by_cases hq:q.1=x <;> simp [hq]
    ·exact (List.pairwise_map.1 hnd).imp (fun hne ⟨h1,h2⟩=>hne ((by simpa using h1:_=x).trans (by simpa using h2:_=x).symm))
   rw [hsub,he,ChangeMaps.map_eraseIdx,ChangeMaps.map_eraseIdx,hl]
theorem MapG.clear (h:MapG P k kenc venc w b l) (ht:P.underlying t=some (.map k e)) (ty:TypeId) :
  ∃ w',(Builtin.clear_ #[t] ty #[.map (some b)]).run P w=.ok (.tuple #[]) w'∧MapG P k kenc venc w' b ([]:List (α×β))∧w.grownBy w' (some b)∧w'.heap.size=w.heap.size:=by
 obtain ⟨es,c,hb,hs,hks,hl⟩:=h.ex
 refine ⟨ChangeMaps.setBlock w b (.map #[] c),?_,⟨_,_,?_,MapKept.stamped_empty c,by simp,rfl⟩,⟨rfl,rfl,rfl,by simp [ChangeMaps.setBlock],fun i _ hi=>?_⟩,by simp [ChangeMaps.setBlock]⟩
 ·simp [Builtin.clear_,run_underlying ht,MapKept.run_getObj_map hb,MapKept.run_setObj_map _ hb,ChangeMaps.setBlock]
 ·simp only [ChangeMaps.setBlock];rw [Array.getElem?_setIfInBounds_self_of_lt (block_lt hb)]
 ·simp only [ChangeMaps.setBlock];rw [Array.getElem?_setIfInBounds_ne (fun e=>hi (by rw [e]))]
end
structure EntsF (w:World) (F:Nat→Prop) (v:Value) (qs:List (LE×List Int)):Prop where
 own:Own encLE 3 67 w 0 v (qs.map (·.1))
 inF:∀ k,v.ownBlock=some k→F k
 each:∀ q∈qs,Own encB 1 5 w 0 (.slice q.1.A q.1.n q.1.c) q.2∧(∀ k,(Value.slice q.1.A q.1.n q.1.c).ownBlock=some k→F k)∧q.2.length≤140737488351232
section
variable {w w':World} {F G:Nat→Prop} {v:Value} {qs:List (LE×List Int)}
theorem EntsF.nil:EntsF w F (.slice none 0 0) []:=⟨Own.nil,by simp [Value.ownBlock],by simp⟩
theorem EntsF.mono (h:EntsF w F v qs) (hs:∀ i,F i→i<w.heap.size→G i):EntsF w G v qs :=
 ⟨h.own,fun k hk=>hs k (h.inF k hk) (h.own.lt k hk).2,fun q hq=>⟨(h.each q hq).1,fun k hk=>hs k ((h.each q hq).2.1 k hk) ((h.each q hq).1.lt k hk).2,(h.each q hq).2.2⟩⟩
theorem EntsF.keepT (h:EntsF w F v qs) (hk:∀ i,F i→(∃ cur t,w.heap[i]?=some (.cells cur t (0,0))∧(t=67∨t=5))→w'.heap[i]?=w.heap[i]?):EntsF w' F v qs :=
 ⟨h.own.same fun k e=>hk k (h.inF k e) (by obtain ⟨cur,hc⟩:=h.own.typed k e;exact ⟨cur,_,hc,.inl rfl⟩),h.inF,
  fun q hq=>⟨(h.each q hq).1.same fun k e=>hk k ((h.each q hq).2.1 k e) (by obtain ⟨cur,hc⟩:=(h.each q hq).1.typed k e;exact ⟨cur,_,hc,.inr rfl⟩),(h.each q hq).2⟩⟩
theorem EntsF.keep (h:EntsF w F v qs) (hk:∀ i,F i→i<w.heap.size→w'.heap[i]?=w.heap[i]?):EntsF w' F v qs :=
 h.keepT fun i hi ⟨_,_,hc,_⟩=>hk i hi (block_lt hc)
theorem EntsF.below (h:EntsF w F v qs) (hb:Below w.heap.size w w'):EntsF w' F v qs:=h.keep fun i _ hl=>hb.block i hl
theorem OEnts.entsF {base:Nat} (h:OEnts w base v qs) (hF:∀ i,base≤i→i<w.heap.size→F i):EntsF w F v qs :=
 ⟨h.own.weaken (Nat.zero_le _),fun k hk=>hF k (h.own.lt k hk).1 (h.own.lt k hk).2,fun q hq=>⟨(h.each q hq).1.weaken (Nat.zero_le _),fun k hk=>hF k ((h.each q hq).1.lt k hk).1 ((h.each q hq).1.lt k hk).2,(h.each q hq).2.2⟩⟩
theorem EntsF.oents (h:EntsF w F v qs):OEnts w 0 v qs :=
 ⟨h.own,fun q hq=>⟨(h.each q hq).1,by
  cases hk:(Value.slice q.1.A q.1.n q.1.c).ownBlock with
  | none=>exact .inl rfl
  | some k =>
   right;intro e
   obtain ⟨c1,h1⟩:=(h.each q hq).1.typed k hk
   obtain ⟨c2,h2⟩:=h.own.typed k e.symm
   rw [h1] at h2;injection h2 with h2;injection h2 with _ h2;exact absurd h2 (by decide),(h.each q hq).2.2⟩⟩
theorem EntsF.ents {A:Option Addr} {n c:Nat} (h:EntsF w F (.slice A n c) qs):Ents w w.heap.size A qs∧n=qs.length∧n≤c:=by
 have hc:=Own.cap h.own
 simp only [List.length_map] at hc
 exact ⟨h.oents.ents,hc⟩
theorem EntsF.lt (h:EntsF w F v qs) (k:Nat) (hk:v.ownBlock=some k):k<w.heap.size:=(h.own.lt k hk).2
end
structure MR where
 kind:Int
 from_:Int
 to_:Int
 term:Int
 idx:Int
 lt:Int
 commit:Int
 eA:Option Addr
 en:Nat
 ec:Nat
 rej:Bool
 hint:Int
def encM (m:MR):List Value:=[.int .i64 m.kind,.int .i64 m.from_,.int .i64 m.to_,.int .i64 m.term,.int .i64 m.idx,.int .i64 m.lt,.int .i64 m.commit,.slice m.eA m.en m.ec,.bool m.rej,.int .i64 m.hint]
theorem len_M (x:MR):(encM x).length=10:=rfl
theorem one_M (x:MR):∀ u∈encM x,u.oneCell'=true:=by
 intro u hu
 simp only [encM,List.mem_cons,List.not_mem_nil,or_false] at hu
 rcases hu with rfl | rfl | rfl | rfl | rfl | rfl | rfl | rfl | rfl | rfl <;> rfl
theorem info3:∃ i z,Tryz.prog.info? 3=some i∧i.zero=some z∧i.size=1∧i.bytes=8∧z.cells.size=1:=by
 have h:(Tryz.prog.info? 3).map (fun i=>(i.zero,i.size,i.bytes))=some (some (.int .i64 0),1,8):=by kernel_rfl
 obtain ⟨i,hi,h0,h1,h2⟩:=info_parts h
 exact ⟨i,_,hi,h0,h1,h2,rfl⟩
theorem info59:∃ i z,Tryz.prog.info? 59=some i∧i.zero=some z∧i.size=10∧i.bytes=96∧z.cells.size=10:=by
 have h:(Tryz.prog.info? 59).map (fun i=>(i.zero,i.size,i.bytes))=some (some (.agg #[.int .i64 0,.int .i64 0,.int .i64 0,.int .i64 0,.int .i64 0,.int .i64 0,.int .i64 0,.slice none 0 0,.bool false,.int .i64 0]),10,96):=by kernel_rfl
 obtain ⟨i,hi,h0,h1,h2⟩:=info_parts h
 exact ⟨i,_,hi,h0,h1,h2,rfl⟩
structure PM where
 kind:Int
 from_:Int
 to_:Int
 term:Int
 idx:Int
 lt:Int
 commit:Int
 es:List E
 rej:Bool
 hint:Int
def MR.pm (m:MR) (qs:List (LE×List Int)):PM:=⟨m.kind,m.from_,m.to_,m.term,m.idx,m.lt,m.commit,qs.map con,m.rej,m.hint⟩
structure MsgsF (w:World) (F:Nat→Prop) (v:Value) (ms:List (MR×List (LE×List Int))):Prop where
 own:Own encM 10 59 w 0 v (ms.map (·.1))
 inF:∀ k,v.ownBlock=some k→F k
 each:∀ m∈ms,EntsF w F (.slice m.1.eA m.1.en m.1.ec) m.2
section
variable {w w':World} {F G:Nat→Prop} {v:Value} {ms:List (MR×List (LE×List Int))}
theorem MsgsF.nil:MsgsF w F (.slice none 0 0) []:=⟨Own.nil,by simp [Value.ownBlock],by simp⟩
theorem MsgsF.keepT (h:MsgsF w F v ms) (hk:∀ i,F i→(∃ cur t,w.heap[i]?=some (.cells cur t (0,0))∧(t=67∨t=5∨t=59))→w'.heap[i]?=w.heap[i]?):MsgsF w' F v ms :=
 ⟨h.own.same fun k e=>hk k (h.inF k e) (by obtain ⟨cur,hc⟩:=h.own.typed k e;exact ⟨cur,_,hc,.inr (.inr rfl)⟩),h.inF,
  fun m hm=>(h.each m hm).keepT fun i hi ⟨cur,t,hc,ht⟩=>hk i hi ⟨cur,t,hc,by rcases ht with ht | ht <;> simp [ht]⟩⟩
theorem MsgsF.keep (h:MsgsF w F v ms) (hk:∀ i,F i→i<w.heap.size→w'.heap[i]?=w.heap[i]?):MsgsF w' F v ms :=
 h.keepT fun i hi ⟨_,_,hc,_⟩=>hk i hi (block_lt hc)
end
def okI (x:Int):Prop:=-9223372036854775808≤x∧x≤9223372036854775807
theorem KI:KeyEnc Tryz.prog 3 (Value.int .i64) okI where
 keyed:=Maps.int_keyed Tryz.underlying3
 reads x hx:=⟨_,Maps.keyOf_int_mk Tryz.underlying3 (by unfold okI at hx;simp [Lit.wf,IntKind.min,IntKind.max,IntKind.bits,IntKind.signed];omega)⟩
 inj x y h:=by injection h
abbrev MI (w:World) (b:Nat) (l:List (Int×Int)):Prop:=MapG Tryz.prog 3 (Value.int .i64) (Value.int .i64) w b l
abbrev MB (w:World) (b:Nat) (l:List (Int×Unit)):Prop:=MapG Tryz.prog 3 (Value.int .i64) (fun _:Unit=>Value.bool true) w b l
def MapF {β:Type} (venc:β→Value) (w:World) (F:Nat→Prop) (r:Option Nat) (l:List (Int×β)):Prop :=
 match r with
 | none=>l=[]
 | some m=>F m∧MapG Tryz.prog 3 (Value.int .i64) venc w m l
section
variable {β:Type} {venc:β→Value} {w w':World} {F G:Nat→Prop} {r:Option Nat} {l:List (Int×β)}
theorem MapF.keepT (h:MapF venc w F r l) (hk:∀ i,F i→(∃ es c,w.heap[i]?=some (.map es c))→w'.heap[i]?=w.heap[i]?):MapF venc w' F r l:=by
 cases r with
 | none=>exact h
 | some m=>exact ⟨h.1,h.2.same (hk m h.1 h.2.obj)⟩
theorem MapF.mono (h:MapF venc w F r l) (hs:∀ i,F i→i<w.heap.size→G i):MapF venc w G r l:=by
 cases r with
 | none=>exact h
 | some m=>exact ⟨hs m h.1 h.2.lt,h.2⟩
end
structure NS where
 id:Int
 least:Int
 most:Int
 beatc:Int
 batch:Int
 term:Int
 vote:Int
 snap:Int
 snapTerm:Int
 commit:Int
 role:Int
 leader:Int
 elapsed:Int
 timeout:Int
 beat:Int
 heir:Int
 draw:Int
 from_:Int
 first:Int
 last:Int
structure NC where
 pA:Option Addr
 pn:Nat
 pc:Nat
 peers:List Int
 lA:Option Addr
 ln:Nat
 lc:Nat
 log:List (LE×List Int)
 mtR:Option Nat
 mt:List (Int×Int)
 nxR:Option Nat
 nx:List (Int×Int)
 hdR:Option Nat
 hd:List (Int×Unit)
 grR:Option Nat
 gr:List (Int×Unit)
 rfR:Option Nat
 rf:List (Int×Unit)
 mA:Option Addr
 mn:Nat
 mc:Nat
 msgs:List (MR×List (LE×List Int))
 snR:Option Nat
 sn:List (Int×Unit)
def ncells (s:NS) (c:NC):Array Value:=#[.int .i64 s.id,.slice c.pA c.pn c.pc,.int .i64 s.least,.int .i64 s.most,.int .i64 s.beatc,.int .i64 s.batch,.int .i64 s.term,.int .i64 s.vote,.slice c.lA c.ln c.lc,
 .int .i64 s.snap,.int .i64 s.snapTerm,.int .i64 s.commit,.int .i64 s.role,.int .i64 s.leader,.int .i64 s.elapsed,.int .i64 s.timeout,.map c.mtR,.map c.nxR,.map c.hdR,.int .i64 s.beat,.int .i64 s.heir,.map c.grR,.map c.rfR,
 .int .i64 s.draw,.slice c.mA c.mn c.mc,.map c.snR,.int .i64 s.from_,.int .i64 s.first,.int .i64 s.last]
structure NCAt (w:World) (F G:Nat→Prop) (c:NC):Prop where
 bdF:∀ i,F i→i<w.heap.size
 bdG:∀ i,G i→i<w.heap.size
 dis:∀ i,F i→¬ G i
 peers:Own encI 1 3 w 0 (.slice c.pA c.pn c.pc) c.peers
 peersF:∀ k,(Value.slice c.pA c.pn c.pc).ownBlock=some k→F k
 log:EntsF w F (.slice c.lA c.ln c.lc) c.log
 mt:MapF (Value.int .i64) w F c.mtR c.mt
 nx:MapF (Value.int .i64) w F c.nxR c.nx
 hd:MapF (fun _=>Value.bool true) w F c.hdR c.hd
 gr:MapF (fun _=>Value.bool true) w F c.grR c.gr
 rf:MapF (fun _=>Value.bool true) w F c.rfR c.rf
 sn:MapF (fun _=>Value.bool true) w F c.snR c.sn
 msgs:MsgsF w G (.slice c.mA c.mn c.mc) c.msgs
 apart:([c.mtR,c.nxR,c.hdR,c.grR,c.rfR,c.snR].filterMap fun x=>x).Nodup
structure NdAt (w:World) (F G:Nat→Prop) (b:Nat) (s:NS) (c:NC):Prop where
 blk:w.heap[b]?=some (.cells (ncells s c) 126 (0,0))
 hb:F b
 rest:NCAt w F G c
section
variable {w w':World} {F G:Nat→Prop} {b:Nat} {s s':NS} {c:NC}
theorem NCAt.keepB (h:NCAt w F G c) {arr:Array Value} (hb:w.heap[b]?=some (.cells arr 126 (0,0))) (hsz:w.heap.size≤w'.heap.size) (hk:∀ i,F i∨G i→i<w.heap.size→i≠b→w'.heap[i]?=w.heap[i]?):NCAt w' F G c:=by
 have hc:∀ i cur t,w.heap[i]?=some (.cells cur t (0,0))→t≠126→i≠b:=by
  rintro i cur t h1 h2 rfl
  rw [hb] at h1;injection h1 with h1;injection h1 with _ h1;exact h2 h1.symm
 have hm:∀ i es c,w.heap[i]?=some (.map es c)→i≠b:=by
  rintro i es c h1 rfl
  rw [hb] at h1;cases h1
 have M:∀ {β:Type} {venc:β→Value} {r l},MapF venc w F r l→MapF venc w' F r l:=fun h=>h.keepT fun i hi ⟨es,c,h1⟩=>hk i (.inl hi) (block_lt h1) (hm i es c h1)
 refine ⟨fun i hi=>Nat.lt_of_lt_of_le (h.bdF i hi) hsz,fun i hi=>Nat.lt_of_lt_of_le (h.bdG i hi) hsz,h.dis,h.peers.same fun k e=>?_,h.peersF,h.log.keepT fun i hi ⟨cur,t,h1,h2⟩=>hk i (.inl hi) (block_lt h1) (hc i cur t h1 (by rcases h2 with rfl | rfl <;> decide)),
  M h.mt,M h.nx,M h.hd,M h.gr,M h.rf,M h.sn,h.msgs.keepT fun i hi ⟨cur,t,h1,h2⟩=>hk i (.inr hi) (block_lt h1) (hc i cur t h1 (by rcases h2 with rfl | rfl | rfl <;> decide)),h.apart⟩
 obtain ⟨cur,h1⟩:=h.peers.typed k e
 exact hk k (.inl (h.peersF k e)) (block_lt h1) (hc k cur 3 h1 (by decide))
theorem NCAt.keep (h:NCAt w F G c) (hsz:w.heap.size≤w'.heap.size) (hk:∀ i,F i∨G i→i<w.heap.size→w'.heap[i]?=w.heap[i]?):NCAt w' F G c:=by
 have M:∀ {β:Type} {venc:β→Value} {r l},MapF venc w F r l→MapF venc w' F r l:=fun h=>h.keepT fun i hi ⟨es,c,h1⟩=>hk i (.inl hi) (block_lt h1)
 refine ⟨fun i hi=>Nat.lt_of_lt_of_le (h.bdF i hi) hsz,fun i hi=>Nat.lt_of_lt_of_le (h.bdG i hi) hsz,h.dis,h.peers.same fun k e=>?_,h.peersF,h.log.keep fun i hi hl=>hk i (.inl hi) hl,M h.mt,M h.nx,M h.hd,M h.gr,M h.rf,M h.sn,h.msgs.keep fun i hi hl=>hk i (.inr hi) hl,h.apart⟩
 exact hk k (.inl (h.peersF k e)) (h.peers.lt k e).2
theorem NdAt.keep (h:NdAt w F G b s c) (hsz:w.heap.size≤w'.heap.size) (hk:∀ i,F i∨G i→i<w.heap.size→w'.heap[i]?=w.heap[i]?):NdAt w' F G b s c :=
 ⟨(hk b (.inl h.hb) (block_lt h.blk)).trans h.blk,h.hb,h.rest.keep hsz hk⟩
theorem NdAt.below (h:NdAt w F G b s c) (hb:Below w.heap.size w w'):NdAt w' F G b s c:=h.keep hb.size fun i _ hl=>hb.block i hl
theorem NdAt.scal (h:NdAt w F G b s c) (hc:Chg (·=b) w w') (hb:w'.heap[b]?=some (.cells (ncells s' c) 126 (0,0))):NdAt w' F G b s' c :=
 ⟨hb,h.hb,h.rest.keepB h.blk hc.size fun _ _ hl hne=>hc.keep hl hne⟩
theorem NdAt.lt (h:NdAt w F G b s c):b<w.heap.size:=block_lt h.blk
end
section
variable {w:World} {b:Nat} {s:NS} {c:NC} (h:w.heap[b]?=some (.cells (ncells s c) 126 (0,0)))
 include h
theorem nc0:w.cell? ⟨b,0,none⟩=some (.int .i64 s.id):=cell_block h 0 _ rfl
theorem nc1:w.cell? ⟨b,1,none⟩=some (.slice c.pA c.pn c.pc):=cell_block h 1 _ rfl
theorem nc2:w.cell? ⟨b,2,none⟩=some (.int .i64 s.least):=cell_block h 2 _ rfl
theorem nc3:w.cell? ⟨b,3,none⟩=some (.int .i64 s.most):=cell_block h 3 _ rfl
theorem nc4:w.cell? ⟨b,4,none⟩=some (.int .i64 s.beatc):=cell_block h 4 _ rfl
theorem nc5:w.cell? ⟨b,5,none⟩=some (.int .i64 s.batch):=cell_block h 5 _ rfl
theorem nc6:w.cell? ⟨b,6,none⟩=some (.int .i64 s.term):=cell_block h 6 _ rfl
theorem nc7:w.cell? ⟨b,7,none⟩=some (.int .i64 s.vote):=cell_block h 7 _ rfl
theorem nc8:w.cell? ⟨b,8,none⟩=some (.slice c.lA c.ln c.lc):=cell_block h 8 _ rfl
theorem nc9:w.cell? ⟨b,9,none⟩=some (.int .i64 s.snap):=cell_block h 9 _ rfl
theorem nc10:w.cell? ⟨b,10,none⟩=some (.int .i64 s.snapTerm):=cell_block h 10 _ rfl
theorem nc11:w.cell? ⟨b,11,none⟩=some (.int .i64 s.commit):=cell_block h 11 _ rfl
theorem nc12:w.cell? ⟨b,12,none⟩=some (.int .i64 s.role):=cell_block h 12 _ rfl
theorem nc13:w.cell? ⟨b,13,none⟩=some (.int .i64 s.leader):=cell_block h 13 _ rfl
theorem nc14:w.cell? ⟨b,14,none⟩=some (.int .i64 s.elapsed):=cell_block h 14 _ rfl
theorem nc15:w.cell? ⟨b,15,none⟩=some (.int .i64 s.timeout):=cell_block h 15 _ rfl
theorem nc16:w.cell? ⟨b,16,none⟩=some (.map c.mtR):=cell_block h 16 _ rfl
theorem nc17:w.cell? ⟨b,17,none⟩=some (.map c.nxR):=cell_block h 17 _ rfl
theorem nc18:w.cell? ⟨b,18,none⟩=some (.map c.hdR):=cell_block h 18 _ rfl
theorem nc19:w.cell? ⟨b,19,none⟩=some (.int .i64 s.beat):=cell_block h 19 _ rfl
theorem nc20:w.cell? ⟨b,20,none⟩=some (.int .i64 s.heir):=cell_block h 20 _ rfl
theorem nc21:w.cell? ⟨b,21,none⟩=some (.map c.grR):=cell_block h 21 _ rfl
theorem nc22:w.cell? ⟨b,22,none⟩=some (.map c.rfR):=cell_block h 22 _ rfl
theorem nc23:w.cell? ⟨b,23,none⟩=some (.int .i64 s.draw):=cell_block h 23 _ rfl
theorem nc24:w.cell? ⟨b,24,none⟩=some (.slice c.mA c.mn c.mc):=cell_block h 24 _ rfl
theorem nc25:w.cell? ⟨b,25,none⟩=some (.map c.snR):=cell_block h 25 _ rfl
theorem nc26:w.cell? ⟨b,26,none⟩=some (.int .i64 s.from_):=cell_block h 26 _ rfl
theorem nc27:w.cell? ⟨b,27,none⟩=some (.int .i64 s.first):=cell_block h 27 _ rfl
theorem nc28:w.cell? ⟨b,28,none⟩=some (.int .i64 s.last):=cell_block h 28 _ rfl
end
theorem tmod_lo (a:Int) {m:Int} (hm:1≤m):-m<a.tmod m:=by
 have:=Int.tmod_def a m
 rcases Int.lt_or_le a 0 with h | h
 ·have h1:(-a).tmod m<m:=Int.tmod_lt_of_pos _ (by omega)
  rw [Int.neg_tmod] at h1;omega
 ·have:=Int.tmod_nonneg m h;omega
theorem tmod_hi (a:Int) {m:Int} (hm:1≤m):a.tmod m<m:=Int.tmod_lt_of_pos _ (by omega)
set_option maxRecDepth 100000 in
set_option maxHeartbeats 1000000 in
theorem end_any (b:Nat) (s:NS) (c:NC) (w:World) (h:w.heap[b]?=some (.cells (ncells s c) 126 (0,0))) (h0:-4611686018427387904≤s.snap) (h1:s.snap≤4611686018427387904) (h2:c.ln≤4611686018427387) :
  Calls Tryz.prog 57 #[.pointer (some ⟨b,0,none⟩)] w fun e w'=>e=.returned (.int .i64 (s.snap+c.ln))∧∃ n,w'=w.drewN n:=by
 have c9:=nc9 h
 have c8:=nc8 h
 go_enter Tryz.func57,Tryz.ntmps57
 go_wp2
 go_quiet (fail)
 go_wp2
 go_ret
 exact ⟨rfl,_,rfl⟩
def NS.rest (s:NS):NS:={ s with elapsed:=0,timeout:=s.least+s.draw % (s.most-s.least+1) }
theorem draw_mod (a m:Int):a.tmod m % m=a % m:=by
 rw [Int.tmod_def];exact Int.sub_mul_emod_self_left ..
theorem emod_lo (a:Int) {m:Int} (hm:1≤m):0≤a % m:=Int.emod_nonneg _ (by omega)
theorem emod_hi (a:Int) {m:Int} (hm:1≤m):a % m<m:=Int.emod_lt_of_pos _ (by omega)
set_option maxRecDepth 100000 in
set_option maxHeartbeats 1000000 in
theorem rest_any (b:Nat) (s:NS) (c:NC) (w:World) (h:w.heap[b]?=some (.cells (ncells s c) 126 (0,0))) (h0:0≤s.least) (h1:s.least≤s.most) (h2:s.most≤1000) :
  Calls Tryz.prog 66 #[.pointer (some ⟨b,0,none⟩)] w fun e w'=>e=.returned (.tuple #[])∧Chg (·=b) w w'∧w'.heap[b]?=some (.cells (ncells s.rest c) 126 (0,0)):=by
 have c2:=nc2 h
 have c3:=nc3 h
 have c23:=nc23 h
 have c14:=nc14 h
 have c15:=nc15 h
 have hf:=frozen_block h
 have hm:1≤s.most-s.least+1:=by omega
 go_enter Tryz.func66,Tryz.ntmps66
 go_wp2
 go_quiet (fail)
 have t1:=tmod_lo s.draw hm
 have t2:=tmod_hi s.draw hm
 have t3:=emod_lo (s.draw.tmod (s.most-s.least+1)) hm
 have t4:=emod_hi (s.draw.tmod (s.most-s.least+1)) hm
 have HR:=ld (draw_mod s.draw (s.most-s.least+1))
 go_wp2
 go_region
 go_end0
 have hb:=block_setCell (o:=15) (block_setCell (o:=14) (w:=w.drewN (nq+1)) h (.int .i64 0)) (.int .i64 (s.least+s.draw.tmod (s.most-s.least+1) % (s.most-s.least+1)))
 refine ⟨rfl,?_,?_⟩
 ·exact Chg.setCell (F:=(·=b)) (Chg.setCell (F:=(·=b)) (Chg.refl.drewN _) (.inl rfl) _) (.inl rfl) _
 ·rw [hb,HR.out];rfl
def lterm (s:NS) (l:List E) (i:Int):Int:=if i=s.snap then s.snapTerm else ((l[(i-s.snap-1).toNat]?).map (·.term)).getD 0
set_option maxRecDepth 100000 in
set_option maxHeartbeats 1000000 in
theorem term_any (b:Nat) (s:NS) (c:NC) (i:Int) (F G:Nat→Prop) (w:World) (h:NdAt w F G b s c) (h0:0≤s.snap) (h1:s.snap≤4611686018427387904) (hi0:s.snap≤i) (hi:i≤s.snap+c.log.length) (hi2:i≤4611686018427387904) :
  Calls Tryz.prog 107 #[.pointer (some ⟨b,0,none⟩),.int .i64 i] w fun e w'=>e=.returned (.int .i64 (lterm s (c.log.map con) i))∧∃ n,w'=w.drewN n:=by
 have hb:=h.blk
 have c9:=nc9 hb
 have c10:=nc10 hb
 have c8:=nc8 hb
 by_cases hz:i=s.snap
 ·subst hz
  go_enter Tryz.func107,Tryz.ntmps107
  go_wp2
  go_ret
  exact ⟨by simp [lterm],0,rfl⟩
 ·have hzb:(i==s.snap)=false:=by simpa using hz
  obtain ⟨he,hl,hlc⟩:=h.rest.log.ents
  obtain ⟨k,hik⟩:∃ k:Nat,i=s.snap+1+k:=⟨(i-s.snap-1).toNat,by omega⟩
  have hk:k<c.log.length:=by omega
  have hpk:=List.getElem?_eq_getElem hk
  obtain ⟨ba,o,hA,hba,d0,d1,d2⟩:=ents_at he hpk
  have HE:=ld (show lterm s (c.log.map con) i=(c.log[k]).1.term by
   unfold lterm;rw [if_neg hz,List.getElem?_map,show (i-s.snap-1).toNat=k by omega,hpk];rfl)
  rw [hA] at c8
  have W1:IntKind.i64.wrap (i-s.snap)=i-s.snap:=IntWalk.i64_in _ (by omega)
  have W2:IntKind.i64.wrap (i-s.snap-1)=(k:Int):=by rw [IntWalk.i64_in _ (by omega)];omega
  clear hpk hA hz hik
  go_enter Tryz.func107,Tryz.ntmps107
  go_wp2
  go_quiet (fail)
  clear W1 W2
  go_wp2
  go_ret
  exact ⟨by rw [HE.out];rfl,_,rfl⟩
theorem majority_any (b:Nat) (s:NS) (c:NC) (k:Int) (w:World) (h:w.heap[b]?=some (.cells (ncells s c) 126 (0,0))) (h0:0≤k) (h1:k≤1000000) :
  Calls Tryz.prog 96 #[.pointer (some ⟨b,0,none⟩),.int .i64 k] w fun e w'=>e=.returned (.bool (decide (c.pn<2*k)))∧w'=w:=by
 have c1:=nc1 h
 go_enter Tryz.func96,Tryz.ntmps96
 go_wp2
 go_ret
 exact ⟨by simp,rfl⟩
theorem within_any (n lo hi:Int) (w:World):Calls Tryz.prog 55 #[.int .i64 n,.int .i64 lo,.int .i64 hi] w fun e w'=>e=.returned (.bool (decide (lo≤n∧n≤hi)))∧w'=w:=by
 by_cases h1:lo≤n
 ·by_cases h2:n≤hi
  ·go_enter Tryz.func55,Tryz.ntmps55
   go_wp2
   go_ret
   exact ⟨by simp [h1,h2],rfl⟩
  ·go_enter Tryz.func55,Tryz.ntmps55
   go_wp2
   go_ret
   exact ⟨by simp [h2],rfl⟩
 ·go_enter Tryz.func55,Tryz.ntmps55
  go_wp2
  go_ret
  exact ⟨by congr;simp;omega,rfl⟩
theorem num_any (n:Int) (w:World):Calls Tryz.prog 33 #[.int .i64 n] w fun e w'=>e=.returned (.int .i64 n)∧w'=w:=by
 go_enter Tryz.func33,Tryz.ntmps33
 go_wp2
 go_ret
 exact ⟨rfl,rfl⟩
def NS.turned (s:NS) (i:Int):NS:=if s.from_=0∨i<s.from_ then { s with from_:=i } else s
set_option maxRecDepth 100000 in
set_option maxHeartbeats 1000000 in
theorem turned_any (b:Nat) (s:NS) (c:NC) (i:Int) (w:World) (h:w.heap[b]?=some (.cells (ncells s c) 126 (0,0))) :
  Calls Tryz.prog 148 #[.pointer (some ⟨b,0,none⟩),.int .i64 i] w fun e w'=>e=.returned (.tuple #[])∧Chg (·=b) w w'∧w'.heap[b]?=some (.cells (ncells (s.turned i) c) 126 (0,0)):=by
 have c26:=nc26 h
 have hf:=frozen_block h
 have hb:=block_setCell (o:=26) h (.int .i64 i)
 by_cases h1:s.from_=0
 ·have h1b:(s.from_==0)=true:=by simpa using h1
  have HT:=ld (show s.turned i={ s with from_:=i } by simp [NS.turned,h1])
  clear h1
  go_enter Tryz.func148,Tryz.ntmps148
  go_wp2
  go_end0
  exact ⟨rfl,Chg.setCell (F:=(·=b)) Chg.refl (.inl rfl) _,by rw [HT.out];exact hb⟩
 ·have h1b:(s.from_==0)=false:=by simpa using h1
  by_cases h2:i<s.from_
  ·have HT:=ld (show s.turned i={ s with from_:=i } by simp [NS.turned,h2])
   go_enter Tryz.func148,Tryz.ntmps148
   go_wp2
   go_end0
   exact ⟨rfl,Chg.setCell (F:=(·=b)) Chg.refl (.inl rfl) _,by rw [HT.out];exact hb⟩
  ·have HT:=ld (show s.turned i=s by simp [NS.turned,h1,h2])
   go_enter Tryz.func148,Tryz.ntmps148
   go_wp2
   go_end0
   exact ⟨rfl,Chg.refl,by rw [HT.out];exact h⟩
end Go.Proofs.YtocogcgnahbpkaaGreat
