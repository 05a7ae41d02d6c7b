namespace Go.Proofs.YtocogcgnahbpkaaGreat.Rf
structure Ent where
 term:Nat
 data:List Int
 deriving DecidableEq,Repr
structure Msg where
 kind:Nat
 src:Nat
 dst:Nat
 term:Nat
 idx:Nat:=0
 lt:Nat:=0
 commit:Nat:=0
 es:List Ent:=[]
 rej:Bool:=false
 hint:Nat:=0
 deriving DecidableEq,Repr
structure Cfg where
 n:Nat
 least:Nat
 most:Nat
 beat:Nat
 batch:Nat
structure Nd where
 id:Nat
 term:Nat:=0
 vote:Nat:=0
 log:List Ent:=[]
 commit:Nat:=0
 role:Nat:=1
 leader:Nat:=0
 elapsed:Nat:=0
 timeout:Nat:=0
 beat:Nat:=0
 mt:Nat→Nat:=fun _=>0
 nx:Nat→Nat:=fun _=>0
 hd:List Nat:=[]
 gr:List Nat:=[]
 rf:List Nat:=[]
def others (c:Cfg) (id:Nat):List Nat:=(List.range' 1 c.n).filter (·≠id)
def Nd.fin (s:Nd):Nat:=s.log.length
def Nd.tm (s:Nd) (i:Nat):Nat:=if i=0 then 0 else ((s.log[i-1]?).map (·.term)).getD 0
def maj (c:Cfg) (k:Nat):Bool:=decide (c.n<2*k)
def rnd (c:Cfg) (draw:Int):Nat:=c.least+(draw % ((c.most:Int)-c.least+1)).toNat
def rest (c:Cfg) (draw:Int) (s:Nd):Nd:={ s with elapsed:=0,timeout:=rnd c draw }
def put (l:List Nat) (x:Nat):List Nat:=if x∈l then l else l++[x]
def upd (f:Nat→Nat) (p v:Nat):Nat→Nat:=fun q=>if q=p then v else f q
def follow (c:Cfg) (draw:Int) (term leader:Nat) (s:Nd):Nd :=
 rest c draw { s with role:=1,term:=max s.term term,vote:=if s.term<term then 0 else s.vote,leader:=leader }
def stuck (s:Nd):Bool:=s.term==1099511627776||s.fin==1099511627776||s.fin==65536
def app (c:Cfg) (s:Nd) (p:Nat):Msg :=
 { kind:=5,src:=s.id,dst:=p,term:=s.term,idx:=s.nx p-1,lt:=s.tm (s.nx p-1),commit:=s.commit,es:=(s.log.drop (s.nx p-1)).take c.batch }
def apps (c:Cfg) (s:Nd):List Msg:=(others c s.id).map (app c s)
def have_ (c:Cfg) (s:Nd) (i:Nat):Nat:=1+((others c s.id).filter fun p=>i≤s.mt p).length
def countFrom (c:Cfg) (s:Nd):Nat→Nat
 | 0=>s.commit
 | i+1=>if i+1≤s.commit then s.commit else if s.tm (i+1)=s.term then (if maj c (have_ c s (i+1)) then i+1 else countFrom c s i) else s.commit
def count (c:Cfg) (s:Nd):Nd:={ s with commit:=countFrom c s s.fin }
def lead (c:Cfg) (s:Nd):Nd×List Msg :=
 let s:={ s with role:=4,leader:=s.id,elapsed:=0,beat:=0,mt:=fun _=>0,nx:=fun _=>s.fin+1,hd:=[] }
 let s:=if s.fin<1099511627776 then { s with log:=s.log++[⟨s.term,[]⟩] } else s
 let s:=count c s
 (s,apps c s)
def stand (c:Cfg) (draw:Int) (s:Nd):Nd×List Msg :=
 let s:=rest c draw { s with term:=s.term+1,vote:=s.id,role:=3,leader:=0,gr:=[s.id],rf:=[] }
 if maj c 1 then lead c s
 else (s,(others c s.id).map fun p=>{ kind:=3,src:=s.id,dst:=p,term:=s.term,idx:=s.fin,lt:=s.tm s.fin })
def begin_ (c:Cfg) (draw:Int) (s:Nd):Nd×List Msg :=
 let s:=rest c draw s
 if stuck s then (s,[])
 else
  let s:={ s with role:=2,leader:=0,gr:=[s.id] }
  if maj c 1 then stand c draw s
  else (s,(others c s.id).map fun p=>{ kind:=1,src:=s.id,dst:=p,term:=s.term+1,idx:=s.fin,lt:=s.tm s.fin })
def tick (c:Cfg) (draw:Int) (s:Nd):Nd×List Msg :=
 let s:={ s with elapsed:=s.elapsed+1 }
 if s.role≠4 then (if s.timeout≤s.elapsed then begin_ c draw s else (s,[]))
 else
  let s:={ s with beat:=s.beat+1 }
  if c.most≤s.elapsed∧¬ maj c (1+s.hd.length) then (follow c draw s.term 0 { s with elapsed:=0 },[])
  else
   let s:=if c.most≤s.elapsed then { s with elapsed:=0,hd:=[] } else s
   if c.beat≤s.beat then let s:={ s with beat:=0 };(s,apps c s) else (s,[])
def propose (c:Cfg) (l:List (List Int)) (s:Nd):Nd×List Msg :=
 let s:=count c { s with log:=s.log++l.map fun b=>⟨s.term,b⟩ }
 (s,apps c s)
def good (m:Msg) (s:Nd):Bool:=decide (s.tm s.fin<m.lt)||(m.lt==s.tm s.fin&&decide (s.fin≤m.idx))
def led (c:Cfg) (s:Nd):Bool:=s.role==4||(s.leader != 0&&decide (s.elapsed<c.least))
def re (s:Nd) (m:Msg) (kind term idx:Nat) (rej:Bool) (hint:Nat):Msg:={ kind:=kind,src:=s.id,dst:=m.src,term:=term,idx:=idx,rej:=rej,hint:=hint }
def preVote (m:Msg) (s:Nd):Nd×List Msg :=
 if s.term<m.term∧good m s=true then (s,[re s m 2 m.term 0 false 0]) else (s,[re s m 2 s.term 0 true 0])
def preReply (c:Cfg) (draw:Int) (m:Msg) (s:Nd):Nd×List Msg :=
 if s.role≠2∨m.rej=true∨m.term≠s.term+1 then (s,[])
 else
  let s:={ s with gr:=put s.gr m.src }
  if maj c s.gr.length then stand c draw s else (s,[])
def vote (c:Cfg) (draw:Int) (m:Msg) (s:Nd):Nd×List Msg :=
 if good m s=true∧(s.vote=m.src∨(s.vote=0∧s.leader=0)) then
  let s:=rest c draw { s with vote:=m.src }
  (s,[re s m 4 s.term 0 false 0])
 else (s,[re s m 4 s.term 0 true 0])
def voteReply (c:Cfg) (draw:Int) (m:Msg) (s:Nd):Nd×List Msg :=
 if s.role≠3 then (s,[])
 else if m.rej=false then
  let s:={ s with rf:=s.rf.filter (·≠m.src),gr:=put s.gr m.src }
  if maj c s.gr.length then lead c s else (s,[])
 else
  let s:=if m.src∈s.gr then s else { s with rf:=put s.rf m.src }
  if maj c s.rf.length then (follow c draw s.term 0 s,[]) else (s,[])
def merge:List Ent→Nat→List Ent→List Ent×Nat
 | log,i,[]=>(log,i)
 | log,i,e :: es=>if (log[i]?).map (·.term)=some e.term then merge log (i+1) es else
   let l:=log.take i
   let t:=(e :: es).take (65536-l.length)
   (l++t,i+t.length)
def append (c:Cfg) (draw:Int) (m:Msg) (s:Nd):Nd×List Msg :=
 let s:=follow c draw m.term m.src s
 if m.idx<s.commit then (s,[re s m 6 s.term s.commit false 0])
 else if s.fin<m.idx then (s,[re s m 6 s.term m.idx true s.fin])
 else if s.tm m.idx≠m.lt then (s,[re s m 6 s.term m.idx true (m.idx-1)])
 else
  let (l,i):=merge s.log m.idx m.es
  let s:={ s with log:=l,commit:=max s.commit (min m.commit i) }
  (s,[re s m 6 s.term i false 0])
def appendReply (c:Cfg) (m:Msg) (s:Nd):Nd×List Msg :=
 if s.role≠4 then (s,[])
 else
  let p:=m.src
  let s:={ s with hd:=put s.hd p }
  if m.rej=true then
   if m.idx+1=s.nx p then
    let s:={ s with nx:=upd s.nx p (min (max (s.mt p) m.hint+1) (s.fin+1)) }
    (s,[app c s p])
   else (s,[])
  else if s.mt p<m.idx then
   let s:={ s with mt:=upd s.mt p m.idx,nx:=upd s.nx p (m.idx+1) }
   let was:=s.commit
   let s:=count c s
   if was<s.commit then (s,apps c s) else if s.nx p≤s.fin then (s,[app c s p]) else (s,[])
  else (s,[])
def old (m:Msg) (s:Nd):List Msg :=
 if m.kind=5 then [re s m 6 s.term m.idx true 0] else if m.kind=1 then [re s m 2 s.term 0 true 0] else if m.kind=3 then [re s m 4 s.term 0 true 0] else []
def kinds (c:Cfg) (draw:Int) (m:Msg) (s:Nd):Nd×List Msg :=
 match m.kind with
 | 1=>preVote m s
 | 2=>preReply c draw m s
 | 3=>vote c draw m s
 | 4=>voteReply c draw m s
 | 5=>append c draw m s
 | 6=>appendReply c m s
 | _=>(s,[])
def message (c:Cfg) (draw:Int) (m:Msg) (s:Nd):Nd×List Msg :=
 if (m.kind=1∨m.kind=3)∧s.term<m.term∧led c s=true then (s,[])
 else if s.term<m.term∧m.kind≠1∧(m.kind≠2∨m.rej=true) then kinds c draw m (follow c draw m.term (if m.kind=5 then m.src else 0) s)
 else if m.term<s.term then (s,old m s)
 else kinds c draw m s
def tmL (l:List Ent) (i:Nat):Nat:=if i=0 then 0 else ((l[i-1]?).map (·.term)).getD 0
theorem tm_eq (s:Nd) (i:Nat):s.tm i=tmL s.log i:=rfl
structure Maj (n:Nat) (Q:List Nat):Prop where
 nd:Q.Nodup
 rng:∀ q∈Q,1≤q∧q≤n
 big:n<2*Q.length
theorem nodup_le {Q R:List Nat} (hn:Q.Nodup) (h:∀ q∈Q,q∈R):Q.length≤R.length:=by
 induction Q generalizing R with
 | nil=>exact Nat.zero_le _
 | cons a Q ih =>
  obtain ⟨ha,hn⟩:=List.nodup_cons.1 hn
  have hm:a∈R:=h a (by simp)
  have:=ih (R:=R.erase a) hn (fun q hq=>by
   have hne:q≠a:=fun e=>ha (by rw [←e];exact hq)
   exact (List.mem_erase_of_ne hne).2 (h q (by simp [hq])))
  rw [List.length_erase_of_mem hm] at this
  have:0<R.length:=List.length_pos_of_mem hm
  simp only [List.length_cons];omega
theorem Maj.meet {n:Nat} {Q R:List Nat} (hQ:Maj n Q) (hR:Maj n R):∃ q,q∈Q∧q∈R:=by
 refine Classical.byContradiction fun hne=>?_
 have hd:∀ q∈Q,q ∉ R:=fun q h1 h2=>hne ⟨q,h1,h2⟩
 have hnd:(Q++R).Nodup:=List.nodup_append.2 ⟨hQ.nd,hR.nd,fun a ha b hb e=>hd a ha (by rw [e];exact hb)⟩
 have:=nodup_le (R:=List.range' 1 n) hnd (fun q hq=>by
  rcases List.mem_append.1 hq with h | h
  ·have:=hQ.rng q h;exact List.mem_range'_1.2 (by omega)
  ·have:=hR.rng q h;exact List.mem_range'_1.2 (by omega))
 have h1:=hQ.big
 have h2:=hR.big
 simp only [List.length_append,List.length_range'] at this
 omega
structure Gh where
 lid:Nat→Nat
 llog:Nat→List Ent
 voted:Nat→Nat→Nat
 ack:Nat→Nat→Nat
 clog:Nat→Nat→List Ent
 vlog:Nat→Nat→List Ent
def Agree (g:Gh) (l:List Ent):Prop:=∀ k,1≤k→k≤l.length→1≤tmL l k∧g.lid (tmL l k)≠0∧k≤(g.llog (tmL l k)).length∧l.take k=(g.llog (tmL l k)).take k
def upTo (C L:List Ent):Prop:=tmL L L.length<tmL C C.length∨(tmL L L.length=tmL C C.length∧L.length≤C.length)
def Choos (n:Nat) (nd:Nat→Nd) (g:Gh) (t i:Nat):Prop:=∃ Q,Maj n Q∧∀ q∈Q,i≤g.ack t q∨(nd q).term≤t
def Comm (n:Nat) (g:Gh) (t i:Nat):Prop:=1≤i∧tmL (g.llog t) i=t∧∃ Q,Maj n Q∧∀ q∈Q,i≤g.ack t q
def CommOK (n:Nat) (g:Gh) (T:Nat) (l:List Ent) (c:Nat):Prop:=c≤l.length∧(c=0∨∃ t0 c',t0≤T∧c≤c'∧Comm n g t0 c'∧l.take c=(g.llog t0).take c)
structure Form (m:Msg):Prop where
 kind:1≤m.kind∧m.kind≤6
 ne:m.src≠m.dst
 term:1≤m.term
 lt:m.lt≤m.term
 zero:m.kind=1∨m.kind=3∨m.kind=5→(m.lt=0↔m.idx=0)
 es:m.kind≠5→m.es=[]
 len:m.es.length≤16
 hint:m.kind=6→m.rej=true→m.hint<m.idx∨(m.hint=0∧m.idx=0)
structure MsgOK (n:Nat) (g:Gh) (m:Msg):Prop where
 form:Form m
 rng:(1≤m.src∧m.src≤n)∧(1≤m.dst∧m.dst≤n)
 vote:m.kind=3→g.voted m.term m.src=m.src∧(g.clog m.term m.src).length=m.idx∧tmL (g.clog m.term m.src) m.idx=m.lt
 grant:m.kind=4→m.rej=false→g.voted m.term m.src=m.dst
 app:m.kind=5→g.lid m.term=m.src∧m.idx+m.es.length≤(g.llog m.term).length∧m.lt=tmL (g.llog m.term) m.idx∧m.es=((g.llog m.term).drop m.idx).take m.es.length∧CommOK n g m.term (g.llog m.term) m.commit
 took:m.kind=6→m.rej=false→m.idx≤g.ack m.term m.src
def termOf (m:Msg) (T:Nat):Prop:=(m.kind=1→m.term≤T+1)∧(m.kind=2→m.rej=true→m.term≤T)∧(3≤m.kind→m.term≤T)
def setN (nd:Nat→Nd) (i:Nat) (s:Nd):Nat→Nd:=fun j=>if j=i then s else nd j
def upd2 {α:Type} (f:Nat→Nat→α) (t q:Nat) (v:α):Nat→Nat→α:=fun a b=>if a=t∧b=q then v else f a b
def upd1 {α:Type} (f:Nat→α) (t:Nat) (v:α):Nat→α:=fun a=>if a=t then v else f a
structure Inv (n:Nat) (nd:Nat→Nd) (net:List Msg) (g:Gh):Prop where
 ids:∀ i,(nd i).id=i
 rng:∀ i,(nd i).role≠1→1≤i∧i≤n
 llT:∀ t k,tmL (g.llog t) k≤t
 llA:∀ t,Agree g (g.llog t)
 llQ:∀ t,g.lid t≠0→g.voted t (g.lid t)=g.lid t∧∃ Q,Maj n Q∧∀ q∈Q,g.voted t q=g.lid t
 llN:∀ t,g.lid t=0→g.llog t=[]∧∀ q,g.ack t q=0
 lead:∀ i,(nd i).role=4→g.lid (nd i).term=i∧g.llog (nd i).term=(nd i).log∧g.ack (nd i).term i=(nd i).log.length∧∀ p,p≠i→(nd i).mt p≤g.ack (nd i).term p
 nxt:∀ i,(nd i).role=4→∀ p,p≠i→(nd i).mt p<(nd i).nx p∧(nd i).nx p≤(nd i).log.length+1
 voteN:∀ i,g.voted (nd i).term i=(nd i).vote
 voteF:∀ i t,(nd i).term<t→g.voted t i=0∧g.ack t i=0
 cand:∀ i,(nd i).role=3→(nd i).vote=i∧g.clog (nd i).term i=(nd i).log∧(nd i).gr.Nodup∧i∈(nd i).gr∧∀ p∈(nd i).gr,(1≤p∧p≤n)∧g.voted (nd i).term p=i
 candT:∀ i,(nd i).role=3→g.lid (nd i).term≠i
 votes:∀ t q c,c≠0→g.voted t q=c→g.voted t c=c∧upTo (g.clog t c) (g.vlog t q)∧Agree g (g.clog t c)∧(∀ k,tmL (g.clog t c) k<t)∧Agree g (g.vlog t q)∧(∀ k,tmL (g.vlog t q) k<t)
 comp:∀ t t' i,t<t'→g.lid t'≠0→1≤i→tmL (g.llog t) i=t→Choos n nd g t i→i≤(g.llog t').length∧(g.llog t').take i=(g.llog t).take i
 vcomp:∀ t t' q i,t<t'→g.voted t' q≠0→1≤i→i≤g.ack t q→tmL (g.llog t) i=t→Choos n nd g t i→i≤(g.vlog t' q).length∧(g.vlog t' q).take i=(g.llog t).take i
 ackL:∀ t q,g.ack t q≤(g.llog t).length
 ackN:∀ q,g.ack (nd q).term q≤(nd q).log.length∧(nd q).log.take (g.ack (nd q).term q)=(g.llog (nd q).term).take (g.ack (nd q).term q)
 ncomp:∀ t q i,1≤i→i≤g.ack t q→tmL (g.llog t) i=t→Choos n nd g t i→i≤(nd q).log.length∧(nd q).log.take i=(g.llog t).take i
 logA:∀ i,Agree g (nd i).log
 logT:∀ i k,tmL (nd i).log k≤(nd i).term
 comm:∀ i,CommOK n g (nd i).term (nd i).log (nd i).commit
 msgs:∀ m∈net,MsgOK n g m∧termOf m (nd m.src).term
theorem tmL_zero (l:List Ent):tmL l 0=0:=rfl
theorem tmL_congr {l l':List Ent} {j k:Nat} (h:l.take j=l'.take j) (hk:k≤j):tmL l k=tmL l' k:=by
 unfold tmL
 by_cases h0:k=0
 ·simp [h0]
 ·rw [if_neg h0,if_neg h0]
  have e:∀ m:List Ent,m[k-1]?=(m.take j)[k-1]?:=fun m=>by rw [List.getElem?_take,if_pos (by omega)]
  rw [e l,e l',h]
theorem tmL_take (l:List Ent) {j k:Nat} (hk:k≤j):tmL (l.take j) k=tmL l k:=tmL_congr (j:=j) (by rw [List.take_take,Nat.min_self]) hk
theorem tmL_append (l r:List Ent) {k:Nat} (hk:k≤l.length):tmL (l++r) k=tmL l k:=tmL_congr (j:=l.length) (by simp) hk
theorem tmL_past (l:List Ent) {k:Nat} (hk:l.length<k):tmL l k=0:=by
 unfold tmL
 rw [if_neg (by omega),List.getElem?_eq_none (by omega)]
 rfl
theorem take_of_take {l l':List Ent} {j k:Nat} (h:l.take j=l'.take j) (hk:k≤j):l.take k=l'.take k:=by
 have:=congrArg (List.take k) h
 rwa [List.take_take,List.take_take,Nat.min_eq_left hk] at this
section
variable {g:Gh} {l l':List Ent}
theorem Agree.take (h:Agree g l) (j:Nat):Agree g (l.take j):=fun k h1 hk=>by
 rw [List.length_take] at hk
 have hkj:k≤j:=by omega
 rw [tmL_take l hkj,List.take_take,Nat.min_eq_left hkj]
 exact h k h1 (by omega)
theorem Agree.same (h:Agree g l) (h':Agree g l') {k:Nat} (h1:1≤k) (hk:k≤l.length) (hk':k≤l'.length) (ht:tmL l k=tmL l' k):l.take k=l'.take k:=by
 have a:=(h k h1 hk).2.2.2
 have b:=(h' k h1 hk').2.2.2
 rw [a,ht,b]
theorem Agree.mono (hT:∀ t k,tmL (g.llog t) k≤t) (h:Agree g l) {j k:Nat} (hjk:j≤k) (hk:k≤l.length):tmL l j≤tmL l k:=by
 by_cases h1:1≤k
 ·have a:=(h k h1 hk).2.2.2
  rw [tmL_congr a hjk]
  exact hT _ _
 ·obtain rfl:j=k:=by omega
  exact Nat.le_refl _
theorem Agree.pos (h:Agree g l) {k:Nat} (h1:1≤k) (hk:k≤l.length):1≤tmL l k:=(h k h1 hk).1
theorem Agree.nil:Agree g []:=fun k h1 hk=>by simp at hk;omega
end
theorem elect {g:Gh} (hT:∀ t k,tmL (g.llog t) k≤t) {t' t i:Nat} {C L:List Ent}
  (hcomp:∀ v,t<v→v<t'→g.lid v≠0→i≤(g.llog v).length∧(g.llog v).take i=(g.llog t).take i)
  (hC:Agree g C) (hCt:∀ k,tmL C k<t') (hL:Agree g L) (hup:upTo C L) (h1:1≤i) (hti:tmL (g.llog t) i=t) (hiL:i≤L.length) (hpre:L.take i=(g.llog t).take i):i≤C.length∧C.take i=(g.llog t).take i:=by
 have hLi:tmL L i=t:=by rw [tmL_congr hpre (Nat.le_refl _)];exact hti
 have hlast:t≤tmL L L.length:=by rw [←hLi];exact hL.mono hT hiL (Nat.le_refl _)
 have hCn:1≤C.length:=by
  rcases Nat.eq_zero_or_pos C.length with h0 | h0
  ·have ht1:1≤tmL L L.length:=hL.pos (by omega) (Nat.le_refl _)
   rcases hup with h | ⟨h,_⟩
   ·rw [h0,tmL_zero] at h;omega
   ·rw [h0,tmL_zero] at h;omega
  ·exact h0
 obtain ⟨_,hv0,hvl,hvt⟩:=hC C.length hCn (Nat.le_refl _)
 rw [List.take_length] at hvt
 rcases hup with hlt | ⟨heq,hlen⟩
 ·
  have hv:t<tmL C C.length:=by omega
  obtain ⟨c1,c2⟩:=hcomp _ hv (hCt _) hv0
  have hCi:i≤C.length:=by
   refine Classical.byContradiction fun hn=>?_
   have h2:tmL C C.length=tmL (g.llog t) C.length:=by
    have e1:tmL C C.length=tmL (g.llog (tmL C C.length)) C.length:=by
     refine tmL_congr (j:=C.length) ?_ (Nat.le_refl _)
     rw [List.take_length];exact hvt
    rw [e1]
    exact tmL_congr c2 (by omega)
   have:=hT t C.length
   omega
  refine ⟨hCi,?_⟩
  rw [←c2]
  refine take_of_take (j:=C.length) ?_ hCi
  rw [List.take_length];exact hvt
 ·
  have hL1:1≤L.length:=by omega
  obtain ⟨_,_,_,hLt⟩:=hL L.length hL1 (Nat.le_refl _)
  rw [List.take_length] at hLt
  have hCi:i≤C.length:=by omega
  refine ⟨hCi,?_⟩
  rw [←hpre]
  have e1:C.take i=(g.llog (tmL C C.length)).take i:=take_of_take (j:=C.length) (by rw [List.take_length];exact hvt) hCi
  have e2:L.take i=(g.llog (tmL L L.length)).take i:=take_of_take (j:=L.length) (by rw [List.take_length];exact hLt) hiL
  rw [e1,e2,heq]
structure Ext (nd nd':Nat→Nd) (g g':Gh):Prop where
 tm:∀ q,(nd q).term≤(nd' q).term
 ack:∀ t q,g.ack t q≤g'.ack t q
 ackN:∀ t q,g'.ack t q≠g.ack t q→(nd q).term≤t
 llog:∀ t k,k≤(g.llog t).length→k≤(g'.llog t).length∧(g'.llog t).take k=(g.llog t).take k
 lid:∀ t,g.lid t≠0→g'.lid t=g.lid t
 voted:∀ t q,g.voted t q≠0→g'.voted t q=g.voted t q
 clog:∀ t c,g.voted t c=c→c≠0→g'.clog t c=g.clog t c
 vlog:∀ t q,g.voted t q≠0→g'.vlog t q=g.vlog t q
theorem Maj.ne {n:Nat} {Q:List Nat} (h:Maj n Q):∃ q,q∈Q:=by
 have:=h.big
 match Q,this with
 | [],h=>simp at h
 | q :: _,_=>exact ⟨q,by simp⟩
section
variable {n:Nat} {nd nd':Nat→Nd} {g g':Gh}
theorem Ext.choos (e:Ext nd nd' g g') {t i:Nat} (h:Choos n nd' g' t i):Choos n nd g t i:=by
 obtain ⟨Q,hQ,hq⟩:=h
 refine ⟨Q,hQ,fun q hm=>?_⟩
 rcases hq q hm with h | h
 ·by_cases ha:g'.ack t q=g.ack t q
  ·exact .inl (by omega)
  ·exact .inr (e.ackN t q ha)
 ·exact .inr (Nat.le_trans (e.tm q) h)
theorem Ext.tmL (e:Ext nd nd' g g') {t k:Nat} (hk:k≤(g.llog t).length):tmL (g'.llog t) k=tmL (g.llog t) k:=tmL_congr (e.llog t k hk).2 (Nat.le_refl _)
theorem Ext.agree (e:Ext nd nd' g g') {l:List Ent} (h:Agree g l):Agree g' l:=fun k h1 hk=>by
 obtain ⟨a,b,c,d⟩:=h k h1 hk
 have:=e.llog _ _ c
 exact ⟨a,by rw [e.lid _ b];exact b,this.1,by rw [this.2];exact d⟩
theorem Comm.len (hL:∀ t q,g.ack t q≤(g.llog t).length) {t i:Nat} (h:Comm n g t i):i≤(g.llog t).length:=by
 obtain ⟨_,_,Q,hQ,hq⟩:=h
 obtain ⟨q,hm⟩:=hQ.ne
 exact Nat.le_trans (hq q hm) (hL t q)
theorem Comm.choos {t i:Nat} (h:Comm n g t i):Choos n nd g t i:=by
 obtain ⟨_,_,Q,hQ,hq⟩:=h
 exact ⟨Q,hQ,fun q hm=>.inl (hq q hm)⟩
theorem Ext.comm (e:Ext nd nd' g g') (hL:∀ t q,g.ack t q≤(g.llog t).length) {t i:Nat} (h:Comm n g t i):Comm n g' t i:=by
 have hl:=h.len hL
 obtain ⟨a,b,Q,hQ,hq⟩:=h
 exact ⟨a,by rw [e.tmL hl];exact b,Q,hQ,fun q hm=>Nat.le_trans (hq q hm) (e.ack t q)⟩
theorem Ext.commOK (e:Ext nd nd' g g') (hL:∀ t q,g.ack t q≤(g.llog t).length) {T T' c:Nat} {l l':List Ent} (h:CommOK n g T l c) (hT:T≤T') (hc:c≤l'.length) (hl:l'.take c=l.take c):CommOK n g' T' l' c:=by
 refine ⟨hc,?_⟩
 rcases h.2 with h0 | ⟨t0,c',h1,h2,h3,h4⟩
 ·exact .inl h0
 ·have:=h3.len hL
  exact .inr ⟨t0,c',by omega,h2,e.comm hL h3,by rw [hl,h4,(e.llog t0 c (by omega)).2]⟩
theorem Ext.msg (e:Ext nd nd' g g') (hL:∀ t q,g.ack t q≤(g.llog t).length) {m:Msg} (h:MsgOK n g m):MsgOK n g' m:=by
 have hs:=h.rng
 refine ⟨h.form,h.rng,fun hk=>?_,fun hk hr=>?_,fun hk=>?_,fun hk hr=>?_⟩
 ·obtain ⟨a,b,c⟩:=h.vote hk
  rw [e.clog _ _ a (by omega),e.voted _ _ (by omega)]
  exact ⟨a,b,c⟩
 ·rw [e.voted _ _ (by rw [h.grant hk hr];omega)];exact h.grant hk hr
 ·obtain ⟨a,b,c,d,f⟩:=h.app hk
  have ha:=e.llog m.term _ b
  have ha':=e.llog m.term m.idx (by omega)
  refine ⟨by rw [e.lid _ (by omega)];exact a,ha.1,by rw [e.tmL (by omega)];exact c,?_,?_⟩
  ·have key:∀ l:List Ent,(l.drop m.idx).take m.es.length=(l.take (m.idx+m.es.length)).drop m.idx:=fun l=>by
    rw [List.drop_take];congr 1;omega
   rw [key,ha.2,←key];exact d
  ·have:=f.1
   exact e.commOK hL f (Nat.le_refl _) (e.llog _ _ this).1 (e.llog _ _ this).2
 ·exact Nat.le_trans (h.took hk hr) (e.ack _ _)
theorem Ext.refl (htm:∀ q,(nd q).term≤(nd' q).term):Ext nd nd' g g :=
 ⟨htm,fun _ _=>Nat.le_refl _,fun _ _ h=>absurd rfl h,fun _ _ h=>⟨h,rfl⟩,fun _ _=>rfl,fun _ _ _=>rfl,fun _ _ _ _=>rfl,fun _ _ _=>rfl⟩
end
theorem setN_at (nd:Nat→Nd) (i:Nat) (s:Nd):setN nd i s i=s:=by simp [setN]
theorem setN_ne (nd:Nat→Nd) {i j:Nat} (s:Nd) (h:j≠i):setN nd i s j=nd j:=by simp [setN,h]
section
variable {n:Nat} {nd:Nat→Nd} {g:Gh} {net:List Msg}
theorem Inv.node (h:Inv n nd net g) (i:Nat) (s:Nd) (hi:1≤i∧i≤n) (hid:s.id=i) (hterm:(nd i).term≤s.term) (hlog:s.log=(nd i).log)
  (hv:s.vote=if (nd i).term<s.term then 0 else (nd i).vote)
  (h4:s.role=4→(nd i).role=4∧s.term=(nd i).term∧∀ p,p≠i→s.mt p≤g.ack s.term p∧s.mt p<s.nx p∧s.nx p≤s.log.length+1)
  (h3:s.role=3→(nd i).role=3∧s.term=(nd i).term∧s.gr.Nodup∧i∈s.gr∧∀ p∈s.gr,(1≤p∧p≤n)∧g.voted s.term p=i)
  (hc:CommOK n g s.term s.log s.commit):Inv n (setN nd i s) net g:=by
 have htm:∀ q,(nd q).term≤(setN nd i s q).term:=fun q=>by
  by_cases hq:q=i
  ·subst hq;rw [setN_at];exact hterm
  ·rw [setN_ne _ _ hq];exact Nat.le_refl _
 have e:Ext nd (setN nd i s) g g:=.refl htm
 have hvote:s.term=(nd i).term→s.vote=(nd i).vote:=fun ht=>by rw [hv,ht,if_neg (Nat.lt_irrefl _)]
 constructor
 ·intro j
  by_cases hj:j=i
  ·subst hj;rw [setN_at];exact hid
  ·rw [setN_ne _ _ hj];exact h.ids j
 ·intro j
  by_cases hj:j=i
  ·subst hj;exact fun _=>hi
  ·rw [setN_ne _ _ hj];exact h.rng j
 ·exact h.llT
 ·exact h.llA
 ·exact h.llQ
 ·exact h.llN
 ·intro j
  by_cases hj:j=i
  ·subst hj;rw [setN_at];intro hr
   obtain ⟨a,b,c⟩:=h4 hr
   obtain ⟨x,y,z,w⟩:=h.lead j a
   rw [b,hlog]
   exact ⟨x,y,z,by rw [←b];exact fun p hp=>(c p hp).1⟩
  ·rw [setN_ne _ _ hj];exact h.lead j
 ·intro j
  by_cases hj:j=i
  ·subst hj;rw [setN_at];exact fun hr p hp=>((h4 hr).2.2 p hp).2
  ·rw [setN_ne _ _ hj];exact h.nxt j
 ·intro j
  by_cases hj:j=i
  ·subst hj;rw [setN_at,hv]
   split
   ·exact (h.voteF j _ (by assumption)).1
   ·rw [←h.voteN j,show s.term=(nd j).term by omega]
  ·rw [setN_ne _ _ hj];exact h.voteN j
 ·intro j t ht
  exact h.voteF j t (Nat.lt_of_le_of_lt (htm j) ht)
 ·intro j
  by_cases hj:j=i
  ·subst hj;rw [setN_at];intro hr
   obtain ⟨a,b,c,d,f⟩:=h3 hr
   obtain ⟨x,y,_⟩:=h.cand j a
   refine ⟨by rw [hvote b];exact x,by rw [b,hlog];exact y,c,d,f⟩
  ·rw [setN_ne _ _ hj];exact h.cand j
 ·intro j
  by_cases hj:j=i
  ·subst hj;rw [setN_at];intro hr
   obtain ⟨a,b,_⟩:=h3 hr
   rw [b];exact h.candT j a
  ·rw [setN_ne _ _ hj];exact h.candT j
 ·exact h.votes
 ·intro t t' k a b c d f;exact h.comp t t' k a b c d (e.choos f)
 ·intro t t' q k a b c d f x;exact h.vcomp t t' q k a b c d f (e.choos x)
 ·exact h.ackL
 ·intro j
  by_cases hj:j=i
  ·subst hj;rw [setN_at,hlog]
   by_cases ht:s.term=(nd j).term
   ·rw [ht];exact h.ackN j
   ·rw [(h.voteF j s.term (by omega)).2];simp
  ·rw [setN_ne _ _ hj];exact h.ackN j
 ·intro t q k a b c d
  have:=h.ncomp t q k a b c (e.choos d)
  by_cases hj:q=i
  ·subst hj;rw [setN_at,hlog];exact this
  ·rw [setN_ne _ _ hj];exact this
 ·intro j
  by_cases hj:j=i
  ·subst hj;rw [setN_at,hlog];exact h.logA j
  ·rw [setN_ne _ _ hj];exact h.logA j
 ·intro j k
  by_cases hj:j=i
  ·subst hj;rw [setN_at,hlog];exact Nat.le_trans (h.logT j k) hterm
  ·rw [setN_ne _ _ hj];exact h.logT j k
 ·intro j
  by_cases hj:j=i
  ·subst hj;rw [setN_at];exact hc
  ·rw [setN_ne _ _ hj];exact h.comm j
 ·intro m hm
  obtain ⟨a,b,c,d⟩:=h.msgs m hm
  have:=htm m.src
  exact ⟨a,fun x=>by have:=b x;omega,fun x y=>by have:=c x y;omega,fun x=>by have:=d x;omega⟩
theorem Inv.net' (h:Inv n nd net g) {net':List Msg} (hm:∀ m∈net',m∈net∨(MsgOK n g m∧termOf m (nd m.src).term)):Inv n nd net' g :=
 { h with msgs:=fun m x=>(hm m x).elim (h.msgs m) id }
end
end Go.Proofs.YtocogcgnahbpkaaGreat.Rf
