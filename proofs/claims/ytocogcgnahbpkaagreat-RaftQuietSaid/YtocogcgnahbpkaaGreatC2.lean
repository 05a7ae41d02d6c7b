import Derived.Test.YtocogcgnahbpkaaGreatC1
namespace Go.Proofs.YtocogcgnahbpkaaGreat.Rf
section
variable {n:Nat} {nd:Nat→Nd} {g g0:Gh} {net:List Msg} {i:Nat} {s s':Nd} {ms ms':List Msg} {c:Cfg} {draw:Int}
theorem setN_term (ht:s'.term=s.term) (q:Nat):(setN nd i s q).term=(setN (setN nd i s) i s' q).term:=by
 rw [setN_setN]
 by_cases hq:q=i
 ·subst hq;rw [setN_at,setN_at,ht]
 ·rw [setN_ne _ _ hq,setN_ne _ _ hq]
theorem ext_cast (ht:s'.term=s.term) {d:Nat} {l:List Ent} (hv:g.voted s.term i=0):Ext (setN nd i s) (setN (setN nd i s) i s') g (g.cast s.term i d l):=by
 have hkeep:∀ t q,g.voted t q≠0→¬ (t=s.term∧q=i):=fun t q hne he=>hne (by rw [he.1,he.2];exact hv)
 refine ⟨fun q=>Nat.le_of_eq (setN_term ht q),fun _ _=>Nat.le_refl _,fun _ _ x=>absurd rfl x,fun _ _ x=>⟨x,rfl⟩,fun _ _=>rfl,fun t q x=>upd2_ne _ _ (hkeep t q x),fun t q x hd=>?_,fun t q x=>upd2_ne _ _ (hkeep t q x)⟩
 show (if d=i then upd2 g.clog s.term i l else g.clog) t q=_
 split
 ·exact upd2_ne _ _ (hkeep t q (by omega))
 ·rfl
theorem Good.cast (hG:Good n nd i net g0 s ms) (d:Nat) (hd:d≠0) (hid:s'.id=s.id) (hterm:s'.term=s.term) (hlog:s'.log=s.log)
  (hwas:s.vote=0) (hv:s'.vote=d) (hcm:s'.commit=s.commit) (hT:∀ k,tmL s.log k<s.term)
  (hc:∀ g,Inv n (setN nd i s) (net++ms) g→d≠i→g.voted s.term d=d∧upTo (g.clog s.term d) s.log)
  (h4:s'.role=4→s.role=4∧s'.mt=s.mt∧s'.nx=s.nx)
  (h3:s'.role=3→d=i∧s'.gr=[i]):Good n nd i net g0 s' ms:=by
 have hi:=hG.1
 refine hG.to fun g hI=>⟨g.cast s.term i d s.log,?_,ext_cast hterm (by rw [(Good.nodeFacts hI).2.2.2.2.2.2.2,hwas])⟩
 have hat:setN nd i s i=s:=setN_at ..
 have:=hI.cast i d s' hi.1 hi.2 hd (by rw [hid,(Good.nodeFacts hI).1]) (by rw [hat];exact hterm) (by rw [hat];exact hlog) (by rw [hat];exact hwas) hv (by rw [hat];exact hcm) (by rw [hat];exact hT) (by rw [hat];exact hc g hI) (by rw [hat];exact h4) h3
 rw [hat] at this
 exact this
theorem Good.idEq (hG:Good n nd i net g0 s ms):s.id=i:=by
 obtain ⟨_,g,hI,_⟩:=hG
 exact (Good.nodeFacts hI).1
theorem Good.logT (hG:Good n nd i net g0 s ms) (k:Nat):tmL s.log k≤s.term:=by
 obtain ⟨_,g,hI,_⟩:=hG
 exact (Good.nodeFacts hI).2.2.2.2.2.2.1 k
theorem asks_ok {k:Nat} (hk:k=1∨k=3) {T:Nat} (hT:1≤T) (hn:c.n=n) (hI:Inv n (setN nd i s) net g) (hi:1≤i∧i≤n) (hTs:s.term≤T)
  (hv:k=3→T=s.term∧g.voted T i=i∧g.clog T i=s.log) (h1:k=1→T=s.term+1) {p:Nat} (hp:p∈others c s.id):MsgOK n g { kind:=k,src:=s.id,dst:=p,term:=T,idx:=s.fin,lt:=s.tm s.fin }∧s.id=i∧termOf { kind:=k,src:=s.id,dst:=p,term:=T,idx:=s.fin,lt:=s.tm s.fin } s.term:=by
 obtain ⟨hid,_,_,_,_,hA,hTT,_⟩:=Good.nodeFacts hI
 rw [hid] at hp
 obtain ⟨hp1,hp2⟩:=mem_others.1 hp
 rw [hn] at hp1
 refine ⟨⟨⟨by show 1≤k∧k≤6;omega,?_,hT,Nat.le_trans (hTT _) hTs,fun _=>?_,fun _=>rfl,by simp,fun h=>?_⟩,⟨?_,hp1⟩,fun h=>?_,fun h=>?_,fun h=>?_,fun h=>?_⟩,hid,fun h=>?_,fun h=>?_,fun h=>?_⟩
 ·show s.id≠p;rw [hid];exact fun h=>hp2 h.symm
 ·show tmL s.log s.log.length=0↔s.log.length=0
  constructor
  ·intro h
   rcases Nat.eq_zero_or_pos s.log.length with h0 | h0
   ·exact h0
   ·have:=hA.pos h0 (Nat.le_refl _);omega
  ·intro h;rw [h];rfl
 ·have:k=6:=h;omega
 ·show 1≤s.id∧s.id≤n;rw [hid];exact hi
 ·obtain ⟨a,b,d⟩:=hv h
  show g.voted T s.id=s.id∧(g.clog T s.id).length=s.log.length∧tmL (g.clog T s.id) s.log.length=tmL s.log s.log.length
  rw [hid,d]
  exact ⟨b,rfl,rfl⟩
 ·have:k=4:=h;omega
 ·have:k=5:=h;omega
 ·have:k=6:=h;omega
 ·exact Nat.le_of_eq (h1 h)
 ·have:k=2:=h;omega
 ·rcases hk with x | x
  ·have:3≤k:=h;omega
  ·exact Nat.le_of_eq (hv x).1
theorem Good.stand (hG:Good n nd i net g0 s ms) (hb:c.batch≤16) (hn:c.n=n):Good n nd i net g0 (stand c draw s).1 (ms++(stand c draw s).2):=by
 have hi:=hG.1
 have hid:=hG.idEq
 have hT:=hG.logT
 have h1:Good n nd i net g0 { s with term:=s.term+1,vote:=0,role:=1 } ms:=by
  refine hG.node rfl (Nat.le_succ _) rfl (by rw [if_pos (Nat.lt_succ_self _)]) ?_ ?_ ?_ ?_ ?_
  ·intro hr;exact absurd hr (by show ¬ ((1:Nat)=4);omega)
  ·intro g hI hr;exact absurd hr (by show ¬ ((1:Nat)=4);omega)
  ·intro hr;exact absurd hr (by show ¬ ((1:Nat)=3);omega)
  ·intro g hI hr;exact absurd hr (by show ¬ ((1:Nat)=3);omega)
  ·intro g hI
   have:=(Good.nodeFacts hI).2.2.2.2.1
   refine ⟨this.1,?_⟩
   rcases this.2 with x | ⟨t0,c',x,y⟩
   ·exact .inl x
   ·exact .inr ⟨t0,c',Nat.le_trans x (Nat.le_succ _),y⟩
 have h2:Good n nd i net g0 (Rf.rest c draw { s with term:=s.term+1,vote:=s.id,role:=3,leader:=0,gr:=[s.id],rf:=[] }) ms:=by
  refine h1.cast s.id (by rw [hid];omega) rfl rfl rfl rfl rfl rfl (fun k=>Nat.lt_succ_of_le (hT k)) (fun g hI h=>absurd hid h) (fun hr=>absurd hr (by show ¬ ((3:Nat)=4);omega)) (fun _=>⟨hid,by show [s.id]=[i];rw [hid]⟩)
 unfold Rf.stand
 simp only
 by_cases hm:maj c 1=true
 ·rw [if_pos hm]
  exact h2.lead hb hn rfl (by exact hm)
 ·rw [if_neg hm]
  refine h2.send _ fun g hI m hm=>?_
  obtain ⟨p,hp,rfl⟩:=List.mem_map.1 hm
  have hc:=(Good.nodeFacts hI).2.2.2.1 rfl
  have hv:=(Good.nodeFacts hI).2.2.2.2.2.2.2
  exact asks_ok (.inr rfl) (Nat.succ_le_succ (Nat.zero_le _)) hn hI hi (Nat.le_refl _) (fun _=>⟨rfl,hv.trans hc.1,hc.2.1⟩) (fun h=>by omega) hp
theorem Good.begin_ (hG:Good n nd i net g0 s ms) (hb:c.batch≤16) (hn:c.n=n):Good n nd i net g0 (begin_ c draw s).1 (ms++(begin_ c draw s).2):=by
 have hi:=hG.1
 have h1:Good n nd i net g0 (Rf.rest c draw s) ms:=hG.rest
 unfold Rf.begin_
 simp only
 by_cases hs:stuck (Rf.rest c draw s)=true
 ·rw [if_pos hs,List.append_nil];exact h1
 ·rw [if_neg hs]
  have h2:Good n nd i net g0 { (Rf.rest c draw s) with role:=2,leader:=0,gr:=[(Rf.rest c draw s).id] } ms:=h1.soft ⟨rfl,rfl,rfl,rfl,rfl,.inr (.inr rfl),rfl,rfl,.inr (.inl rfl)⟩
  by_cases hm:maj c 1=true
  ·rw [if_pos hm];exact h2.stand hb hn
  ·rw [if_neg hm]
   refine h2.send _ fun g hI m hm=>?_
   obtain ⟨p,hp,rfl⟩:=List.mem_map.1 hm
   exact asks_ok (.inl rfl) (Nat.succ_le_succ (Nat.zero_le _)) hn hI hi (Nat.le_succ _) (fun h=>by omega) (fun _=>rfl) hp
theorem Good.tick (hG:Good n nd i net g0 s ms) (hb:c.batch≤16) (hn:c.n=n):Good n nd i net g0 (tick c draw s).1 (ms++(tick c draw s).2):=by
 unfold Rf.tick
 simp only
 have h1:Good n nd i net g0 { s with elapsed:=s.elapsed+1 } ms:=hG.soft ⟨rfl,rfl,rfl,rfl,rfl,.inl rfl,rfl,rfl,.inl rfl⟩
 by_cases hr:s.role≠4
 ·rw [if_pos hr]
  split
  ·exact h1.begin_ hb hn
  ·rw [List.append_nil];exact h1
 ·rw [if_neg hr]
  have hr4:s.role=4:=by omega
  split
  ·rw [List.append_nil]
   have:Good n nd i net g0 { s with elapsed:=0,beat:=s.beat+1 } ms:=hG.soft ⟨rfl,rfl,rfl,rfl,rfl,.inl rfl,rfl,rfl,.inl rfl⟩
   exact this.follow _ _
  ·by_cases he:c.most≤s.elapsed+1
   ·simp only [if_pos he]
    split
    ·exact Good.apps (hG.soft ⟨rfl,rfl,rfl,rfl,rfl,.inl rfl,rfl,rfl,.inl rfl⟩) hb hn hr4
    ·rw [List.append_nil]
     exact hG.soft ⟨rfl,rfl,rfl,rfl,rfl,.inl rfl,rfl,rfl,.inl rfl⟩
   ·simp only [if_neg he]
    split
    ·exact Good.apps (hG.soft ⟨rfl,rfl,rfl,rfl,rfl,.inl rfl,rfl,rfl,.inl rfl⟩) hb hn hr4
    ·rw [List.append_nil]
     exact hG.soft ⟨rfl,rfl,rfl,rfl,rfl,.inl rfl,rfl,rfl,.inl rfl⟩
theorem Good.push (hG:Good n nd i net g0 s ms) (hr:s.role=4) (es:List Ent) (he:∀ e∈es,e.term=s.term):Good n nd i net g0 { s with log:=s.log++es } ms:=by
 have hi:=hG.1
 refine hG.to fun g hI=>?_
 obtain ⟨hid',hl,hx,_,_,hA,hT,hvN⟩:=Good.nodeFacts hI
 obtain ⟨a,b,d,f⟩:=hl hr
 have hQ:=hI.llQ s.term (by rw [a];omega)
 rw [a] at hQ
 have hvs:=hI.votes s.term i i (by omega) hQ.1
 have hT1:1≤s.term:=by have:=hvs.2.2.2.1 0;omega
 have hat:setN nd i s i=s:=setN_at ..
 have hlen:s.log.length≤(s.log++es).length:=by rw [List.length_append];omega
 refine ⟨g.grow s.term i (s.log++es),?_,?_⟩
 ·have:=hI.grow i { s with log:=s.log++es } (s.log++es) hi.1 hi.2 hid' (by rw [hat]) rfl (by rw [hat]) (by rw [hat]) hr (by rw [hat];exact .inr ⟨a,by omega⟩) (by rw [hat,b];exact List.prefix_append ..) (by rw [hat];exact List.prefix_append ..)
   (by
    rw [hat];intro k h1 h2
    unfold tmL
    rw [if_neg (by omega),List.getElem?_append_right (by omega)]
    rw [List.length_append] at h2
    rw [List.getElem?_eq_getElem (by omega)]
    exact he _ (List.getElem_mem _))
   (by rw [hat];exact hT1) (by rw [hat];exact hQ)
   (by
    rw [hat];intro t k h1 h2 h3 h4
    have:=hI.comp t s.term k h1 (by rw [a];omega) h2 h3 h4
    rw [b] at this
    exact ⟨by omega,by rw [List.take_append_of_le_length this.1];exact this.2⟩)
   (by rw [hat];exact fun p hp=>⟨f p hp,(hx hr p hp).1,by have:=(hx hr p hp).2;show s.nx p≤_;omega⟩)
  rw [hat] at this
  exact this
 ·refine ⟨fun q=>Nat.le_of_eq (setN_term (s:=s) (s':={ s with log:=s.log++es }) rfl q),fun t q=>?_,fun t q hne=>?_,fun t k hk=>?_,fun t ht=>?_,fun _ _ _=>rfl,fun _ _ _ _=>rfl,fun _ _ _=>rfl⟩
  ·show g.ack t q≤upd2 g.ack s.term i (s.log++es).length t q
   by_cases hx:t=s.term∧q=i
   ·obtain ⟨rfl,rfl⟩:=hx
    rw [upd2_at,d];exact hlen
   ·rw [upd2_ne _ _ hx];exact Nat.le_refl _
  ·by_cases hx:t=s.term∧q=i
   ·obtain ⟨rfl,rfl⟩:=hx
    rw [setN_at];exact Nat.le_refl _
   ·exact absurd (upd2_ne _ _ hx) hne
  ·show k≤(upd1 g.llog s.term (s.log++es) t).length∧(upd1 g.llog s.term (s.log++es) t).take k=_
   by_cases hx:t=s.term
   ·subst hx
    rw [upd1_at,b]
    rw [b] at hk
    exact ⟨by omega,List.take_append_of_le_length hk⟩
   ·rw [upd1_ne _ _ hx];exact ⟨hk,rfl⟩
  ·show upd1 g.lid s.term i t=_
   by_cases hx:t=s.term
   ·subst hx;rw [upd1_at,a]
   ·rw [upd1_ne _ _ hx]
theorem Good.propose (hG:Good n nd i net g0 s ms) (hb:c.batch≤16) (hn:c.n=n) (hr:s.role=4) (l:List (List Int)):Good n nd i net g0 (propose c l s).1 (ms++(propose c l s).2):=by
 unfold Rf.propose
 simp only
 refine Good.apps (Good.count (hG.push hr _ fun e he=>?_) hn hr) hb hn hr
 obtain ⟨b,_,rfl⟩:=List.mem_map.1 he
 rfl
end
section
variable {n:Nat} {nd:Nat→Nd} {g g0:Gh} {net:List Msg} {i:Nat} {s s':Nd} {ms ms':List Msg} {c:Cfg} {draw:Int} {m:Msg}
theorem re_ok {k:Nat} (hk:k=2∨k=4∨k=6) {T x h:Nat} {r:Bool} (hT:1≤T) (hi:1≤i∧i≤n) (hid:s.id=i) (hm:MsgOK n g m) (hd:m.dst=i)
  (h4:k=4→r=false→g.voted T i=m.src) (h6:k=6→r=false→x≤g.ack T i) (h6':k=6→r=true→h<x∨(h=0∧x=0)) (ht:(k≠2∨r=true)→T≤s.term):MsgOK n g (re s m k T x r h)∧(re s m k T x r h).src=i∧termOf (re s m k T x r h) s.term:=by
 have hne:=hm.form.ne
 rw [hd] at hne
 have hr:=hm.rng
 refine ⟨⟨⟨by show 1≤k∧k≤6;omega,?_,hT,Nat.zero_le _,fun h=>?_,fun _=>rfl,by simp [re],h6'⟩,⟨?_,hr.1⟩,fun h=>?_,fun h e=>?_,fun h=>?_,fun h e=>?_⟩,hid,fun h=>?_,fun h e=>?_,fun h=>?_⟩
 ·show s.id≠m.src;rw [hid];exact fun h=>hne h.symm
 ·have:k=1∨k=3∨k=5:=h;omega
 ·show 1≤s.id∧s.id≤n;rw [hid];exact hi
 ·have:k=3:=h;omega
 ·show g.voted T s.id=m.src;rw [hid];exact h4 h e
 ·have:k=5:=h;omega
 ·show x≤g.ack T s.id;rw [hid];exact h6 h e
 ·have:k=1:=h;omega
 ·exact ht (.inr e)
 ·exact ht (.inl fun e=>by have:3≤k:=h;omega)
theorem Good.msg (hI:Inv n (setN nd i s) (net++ms) g) (hm:m∈net):MsgOK n g m:=(hI.msgs m (List.mem_append_left _ hm)).1
theorem Good.preVote (hG:Good n nd i net g0 s ms) (hm:m∈net) (hd:m.dst=i):Good n nd i net g0 (preVote m s).1 (ms++(preVote m s).2):=by
 have hi:=hG.1
 unfold Rf.preVote
 split
 ·refine hG.send _ fun g hI x hx=>?_
  obtain rfl:=List.mem_singleton.1 hx
  have hM:=Good.msg hI hm
  exact re_ok (.inl rfl) hM.form.term hi (Good.nodeFacts hI).1 hM hd (fun h=>by omega) (fun h=>by omega) (fun h=>by omega) (fun h=>by simp at h)
 ·rename_i hne
  refine hG.send _ fun g hI x hx=>?_
  obtain rfl:=List.mem_singleton.1 hx
  have hM:=Good.msg hI hm
  refine re_ok (.inl rfl) ?_ hi (Good.nodeFacts hI).1 hM hd (fun h=>by omega) (fun h=>by omega) (fun h=>by omega) (fun _=>Nat.le_refl _)
  refine Classical.byContradiction fun h0=>hne ⟨by have:=hM.form.term;omega,?_⟩
  obtain ⟨_,_,_,_,_,hA,hTT,_⟩:=Good.nodeFacts hI
  have hl:s.log.length=0:=by
   refine Classical.byContradiction fun hl=>?_
   have a:=hA.pos (k:=1) (by omega) (by omega)
   have b:=hTT 1
   omega
  have ht:s.tm s.fin=0:=by show tmL s.log s.log.length=0;rw [hl];rfl
  unfold good
  rw [ht,show s.fin=0 from hl]
  simp
  omega
theorem mem_put {l:List Nat} {x y:Nat}:y∈put l x↔y∈l∨y=x:=by
 unfold put
 split
 ·constructor
  ·exact .inl
  ·rintro (h | rfl) <;> assumption
 ·simp
theorem nodup_put {l:List Nat} (h:l.Nodup) (x:Nat):(put l x).Nodup:=by
 unfold put
 split
 ·exact h
 ·rename_i hx
  exact List.nodup_append.2 ⟨h,by simp,fun a ha b hb e=>by
   obtain rfl:=List.mem_singleton.1 hb
   exact hx (by rw [←e];exact ha)⟩
theorem Good.preReply (hG:Good n nd i net g0 s ms) (hb:c.batch≤16) (hn:c.n=n):Good n nd i net g0 (preReply c draw m s).1 (ms++(preReply c draw m s).2):=by
 unfold Rf.preReply
 split
 ·rw [List.append_nil];exact hG
 ·rename_i hne
  have h2:s.role=2:=Classical.byContradiction fun h=>hne (.inl h)
  have h1:Good n nd i net g0 { s with gr:=put s.gr m.src } ms:=hG.soft ⟨rfl,rfl,rfl,rfl,rfl,.inl rfl,rfl,rfl,.inr (.inl h2)⟩
  simp only
  split
  ·exact h1.stand hb hn
  ·rw [List.append_nil];exact h1
theorem Good.vote (hG:Good n nd i net g0 s ms) (hm:m∈net) (hd:m.dst=i) (hk:m.kind=3) (ht:m.term=s.term):Good n nd i net g0 (vote c draw m s).1 (ms++(vote c draw m s).2):=by
 have hi:=hG.1
 unfold Rf.vote
 split
 ·rename_i hc
  simp only
  have hg:Good n nd i net g0 (Rf.rest c draw { s with vote:=m.src }) ms:=by
   obtain ⟨_,g1,hI1,_⟩:=id hG
   have hM1:=Good.msg hI1 hm
   rcases hc.2 with hv | ⟨hv,_⟩
   ·exact hG.soft ⟨rfl,rfl,hv.symm,rfl,rfl,.inl rfl,rfl,rfl,.inl rfl⟩
   ·have key:∀ g,Inv n (setN nd i s) (net++ms) g→g.voted s.term m.src=m.src∧upTo (g.clog s.term m.src) s.log∧∀ k,tmL s.log k<s.term:=fun g hI=>by
     have hM:=Good.msg hI hm
     obtain ⟨a,b,d⟩:=hM.vote hk
     rw [ht] at a b d
     have hs0:m.src≠0:=by have:=hM.rng.1.1;omega
     have hvs:=hI.votes s.term m.src m.src hs0 a
     have hgood:=hc.1
     unfold good at hgood
     rw [Bool.or_eq_true,decide_eq_true_eq,Bool.and_eq_true,beq_iff_eq,decide_eq_true_eq] at hgood
     have hup:upTo (g.clog s.term m.src) s.log:=by
      unfold upTo
      rw [b,d]
      rcases hgood with h | ⟨h,h'⟩
      ·exact .inl h
      ·exact .inr ⟨h.symm,h'⟩
     refine ⟨a,hup,fun k=>?_⟩
     obtain ⟨_,_,_,_,_,hA,_,_⟩:=Good.nodeFacts hI
     have hlast:tmL s.log s.log.length<s.term:=by
      have h1:=hvs.2.2.2.1 m.idx
      rw [d] at h1
      rcases hgood with h | ⟨h,_⟩
      ·exact Nat.lt_trans h h1
      ·rw [show tmL s.log s.log.length=m.lt from h.symm];exact h1
     by_cases hk:k≤s.log.length
     ·exact Nat.lt_of_le_of_lt (hA.mono hI.llT hk (Nat.le_refl _)) hlast
     ·rw [tmL_past _ (by omega)];omega
    refine hG.cast m.src (by have:=hM1.rng.1.1;omega) rfl rfl rfl hv rfl rfl (key g1 hI1).2.2 (fun g hI _=>⟨(key g hI).1,(key g hI).2.1⟩) (fun h=>⟨h,rfl,rfl⟩) (fun h=>?_)
    have:=((Good.nodeFacts hI1).2.2.2.1 h).1
    omega
  refine hg.send _ fun g hI x hx=>?_
  obtain rfl:=List.mem_singleton.1 hx
  have hM:=Good.msg hI hm
  refine re_ok (.inr (.inl rfl)) ?_ hi (Good.nodeFacts hI).1 hM hd (fun _ _=>(Good.nodeFacts hI).2.2.2.2.2.2.2) (fun h=>by omega) (fun h=>by omega) (fun _=>Nat.le_refl _)
  show 1≤s.term;rw [←ht];exact hM.form.term
 ·refine hG.send _ fun g hI x hx=>?_
  obtain rfl:=List.mem_singleton.1 hx
  have hM:=Good.msg hI hm
  exact re_ok (.inr (.inl rfl)) (by rw [←ht];exact hM.form.term) hi (Good.nodeFacts hI).1 hM hd (fun _ h=>by simp at h) (fun h=>by omega) (fun h=>by omega) (fun _=>Nat.le_refl _)
theorem Good.voteReply (hG:Good n nd i net g0 s ms) (hb:c.batch≤16) (hn:c.n=n) (hm:m∈net) (hd:m.dst=i) (hk:m.kind=4) (ht:m.term=s.term):Good n nd i net g0 (voteReply c draw m s).1 (ms++(voteReply c draw m s).2):=by
 have hi:=hG.1
 unfold Rf.voteReply
 split
 ·rw [List.append_nil];exact hG
 ·rename_i hne
  have h3:s.role=3:=Classical.byContradiction hne
  split
  ·rename_i hr
   simp only
   have h1:Good n nd i net g0 { s with rf:=s.rf.filter (·≠m.src),gr:=put s.gr m.src } ms:=by
    refine hG.node rfl (Nat.le_refl _) rfl (by rw [if_neg (Nat.lt_irrefl _)]) ?_ ?_ ?_ ?_ ?_
    ·intro h;exact absurd (show s.role=4 from h) (by omega)
    ·intro g hI h;exact absurd (show s.role=4 from h) (by omega)
    ·exact fun _=>⟨h3,rfl⟩
    ·intro g hI _
     obtain ⟨_,_,x,y,z⟩:=(Good.nodeFacts hI).2.2.2.1 h3
     refine ⟨nodup_put x _,mem_put.2 (.inl y),fun p hp=>?_⟩
     rcases mem_put.1 hp with h | rfl
     ·exact z p h
     ·have hM:=Good.msg hI hm
      exact ⟨hM.rng.1,by rw [show s.term=m.term from ht.symm,hM.grant hk hr];exact hd⟩
    ·exact fun g hI=>(Good.nodeFacts hI).2.2.2.2.1
   split
   ·exact h1.lead hb hn h3 (by assumption)
   ·rw [List.append_nil];exact h1
  ·simp only
   have h1:Good n nd i net g0 (if m.src∈s.gr then s else { s with rf:=put s.rf m.src }) ms:=by
    split
    ·exact hG
    ·exact hG.soft ⟨rfl,rfl,rfl,rfl,rfl,.inl rfl,rfl,rfl,.inl rfl⟩
   generalize (if m.src∈s.gr then s else { s with rf:=put s.rf m.src })=s1 at h1 ⊢
   split
   ·rw [List.append_nil];exact h1.follow _ _
   ·rw [List.append_nil];exact h1
theorem Good.old (hG:Good n nd i net g0 s ms) (hm:m∈net) (hd:m.dst=i) (ht:m.term<s.term):Good n nd i net g0 s (ms++old m s):=by
 have hi:=hG.1
 refine hG.send _ fun g hI x hx=>?_
 have hM:=Good.msg hI hm
 unfold Rf.old at hx
 split at hx
 ·obtain rfl:=List.mem_singleton.1 hx
  exact re_ok (.inr (.inr rfl)) (by omega) hi (Good.nodeFacts hI).1 hM hd (fun h=>by omega) (fun _ h=>by simp at h) (fun _ _=>by omega) (fun _=>Nat.le_refl _)
 ·split at hx
  ·obtain rfl:=List.mem_singleton.1 hx
   exact re_ok (.inl rfl) (by omega) hi (Good.nodeFacts hI).1 hM hd (fun h=>by omega) (fun h=>by omega) (fun h=>by omega) (fun _=>Nat.le_refl _)
  ·split at hx
   ·obtain rfl:=List.mem_singleton.1 hx
    exact re_ok (.inr (.inl rfl)) (by omega) hi (Good.nodeFacts hI).1 hM hd (fun _ h=>by simp at h) (fun h=>by omega) (fun h=>by omega) (fun _=>Nat.le_refl _)
   ·exact absurd hx (by simp)
theorem merge_spec {log L:List Ent} (hA:Agree g log) (hAL:Agree g L) (es:List Ent):∀ j,j≤log.length→j+es.length≤L.length→es=(L.drop j).take es.length→log.take j=L.take j →
  j≤(merge log j es).2∧(merge log j es).2≤L.length∧(merge log j es).2≤(merge log j es).1.length∧(merge log j es).1.take (merge log j es).2=L.take (merge log j es).2∧((merge log j es).1=log∨((merge log j es).1=L.take (merge log j es).2∧∀ k,k≤log.length→log.take k=L.take k→k≤(merge log j es).2))∧(merge log j es).2≤j+es.length:=by
 induction es with
 | nil=>intro j h1 h2 _ h4;exact ⟨Nat.le_refl _,by simpa [merge] using h2,h1,h4,.inl rfl,Nat.le_refl _⟩
 | cons e es ih =>
  intro j h1 h2 h3 h4
  rw [List.length_cons] at h2
  have hj:j<L.length:=by omega
  have hd:L.drop j=L[j] :: L.drop (j+1):=(List.drop_eq_getElem_cons hj)
  have he:e=L[j]∧es=(L.drop (j+1)).take es.length:=by
   rw [hd,List.length_cons,List.take_succ_cons] at h3
   injection h3 with a b
   exact ⟨a,b⟩
  have hLt:tmL L (j+1)=e.term:=by
   unfold tmL
   rw [if_neg (by omega),show j+1-1=j from rfl,List.getElem?_eq_getElem hj,he.1];rfl
  unfold merge
  split
  ·rename_i hc
   have hjl:j<log.length:=by
    refine Classical.byContradiction fun hn=>?_
    rw [List.getElem?_eq_none (by omega)] at hc
    simp at hc
   have hlt:tmL log (j+1)=e.term:=by
    unfold tmL
    rw [if_neg (by omega),show j+1-1=j from rfl,hc];rfl
   have:=hA.same hAL (k:=j+1) (by omega) hjl hj (by rw [hlt,hLt])
   obtain ⟨a,b,d,f,x,y⟩:=ih (j+1) hjl (by omega) he.2 this
   exact ⟨by omega,b,d,f,x,by rw [List.length_cons];omega⟩
  ·rename_i hc
   simp only
   generalize hr:65536-(log.take j).length=r
   have hlj:(log.take j).length=j:=by rw [List.length_take];omega
   have ht:((e :: es).take r)=(L.drop j).take ((e :: es).take r).length:=by
    rw [List.length_take]
    conv=>lhs;rw [h3]
    rw [List.take_take]
   have htl:((e :: es).take r).length≤(e :: es).length:=by rw [List.length_take];omega
   rw [List.length_cons] at htl
   have hall:log.take j++(e :: es).take r=L.take (j+((e :: es).take r).length):=by
    rw [h4]
    conv=>lhs;rw [ht]
    exact (List.take_add ..).symm
   have hlen:(log.take j++(e :: es).take r).length=j+((e :: es).take r).length:=by rw [List.length_append,hlj]
   refine ⟨by omega,by omega,by rw [hlen];exact Nat.le_refl _,?_,.inr ⟨hall,fun k hk hp=>?_⟩,by rw [List.length_cons];omega⟩
   ·rw [hall,List.take_take,Nat.min_self]
   ·refine Classical.byContradiction fun hn=>?_
    have hjk:j+1≤k:=by omega
    have hjl:j<log.length:=by omega
    have:=tmL_congr (k:=j+1) hp hjk
    rw [hLt] at this
    unfold tmL at this
    rw [if_neg (by omega),show j+1-1=j from rfl,List.getElem?_eq_getElem hjl] at this
    rw [List.getElem?_eq_getElem hjl] at hc
    exact hc (by simpa using this)
theorem ext_took {r:Nat} (ht:s'.term=s.term):Ext (setN nd i s) (setN (setN nd i s) i s') g (g.took s.term i r):=by
 refine ⟨fun q=>Nat.le_of_eq (setN_term ht q),fun t q=>?_,fun t q hne=>?_,fun _ _ x=>⟨x,rfl⟩,fun _ _=>rfl,fun _ _ _=>rfl,fun _ _ _ _=>rfl,fun _ _ _=>rfl⟩
 ·show g.ack t q≤upd2 g.ack s.term i (max (g.ack s.term i) r) t q
  by_cases hx:t=s.term∧q=i
  ·obtain ⟨rfl,rfl⟩:=hx
   rw [upd2_at];exact Nat.le_max_left ..
  ·rw [upd2_ne _ _ hx];exact Nat.le_refl _
 ·by_cases hx:t=s.term∧q=i
  ·obtain ⟨rfl,rfl⟩:=hx
   rw [setN_at];exact Nat.le_refl _
  ·exact absurd (upd2_ne _ _ hx) hne
theorem Good.taken (hG:Good n nd i net g0 s ms) (hm:m∈net) (hd:m.dst=i) (r:Nat) (L:List Ent) (k:Nat) (hrole:s.role=1) (hrl:r≤L.length) (hT1:1≤s.term)
  (h:∀ g,Inv n (setN nd i s) (net++ms) g→g.lid s.term≠0∧r≤(g.llog s.term).length∧L.take r=(g.llog s.term).take r∧(L=s.log∨(L=(g.llog s.term).take r∧∀ k,k≤s.log.length→s.log.take k=(g.llog s.term).take k→k≤r)))
  (hk:∀ g,Inv n (setN nd i s) (net++ms) g→k=s.commit∨(k≤r∧CommOK n g s.term (g.llog s.term) k)):Good n nd i net g0 { s with log:=L,commit:=k } (ms++[re s m 6 s.term r false 0]):=by
 have hi:=hG.1
 refine hG.to fun g hI=>?_
 obtain ⟨a,b,d,f⟩:=h g hI
 have hat:setN nd i s i=s:=setN_at ..
 have hid:=(Good.nodeFacts hI).1
 have hE:Ext (setN nd i s) (setN (setN nd i s) i { s with log:=L,commit:=k }) g (g.took s.term i r):=ext_took rfl
 refine ⟨g.took s.term i r,?_,hE⟩
 have h1:=hI.take i r { s with log:=L } hi.1 hi.2 hid (by rw [hat]) (by rw [hat]) (by rw [hat]) hrole (by rw [hat];exact a) (by rw [hat];exact b) hrl (by rw [hat];exact d) (by rw [hat];exact f)
 rw [hat,setN_setN] at h1
 have hcm:=(Good.nodeFacts h1).2.2.2.2.1
 have h2:=h1.node i { s with log:=L,commit:=k } hi hid (by rw [setN_at];exact Nat.le_refl _) (by rw [setN_at]) (by rw [setN_at,if_neg (Nat.lt_irrefl _)]) (fun h=>absurd (show s.role=4 from h) (by omega)) (fun h=>absurd (show s.role=3 from h) (by omega)) (by
  rcases hk g hI with x | ⟨x,y⟩
  ·subst x;exact hcm
  ·exact hE.commOK hI.ackL y (Nat.le_refl _) (by show k≤L.length;omega) (take_of_take d x))
 rw [setN_setN] at h2
 rw [setN_setN]
 refine h2.net' fun x hx=>?_
 rw [←List.append_assoc] at hx
 rcases List.mem_append.1 hx with y | y
 ·exact .inl y
 ·obtain rfl:=List.mem_singleton.1 y
  have hM:=(h2.msgs m (List.mem_append_left _ hm)).1
  have:=re_ok (s:=s) (i:=i) (k:=6) (T:=s.term) (x:=r) (h:=0) (r:=false) (.inr (.inr rfl)) hT1 hi hid hM hd (fun h=>by omega) (fun _ _=>by
   show r≤upd2 g.ack s.term i (max (g.ack s.term i) r) s.term i
   rw [upd2_at];exact Nat.le_max_right ..) (fun _ h=>by simp at h) (fun _=>Nat.le_refl _)
  exact .inr ⟨this.1,by rw [this.2.1,setN_at];exact this.2.2⟩
theorem Good.append (hG:Good n nd i net g0 s ms) (hm:m∈net) (hd:m.dst=i) (hk:m.kind=5) (ht:m.term=s.term):Good n nd i net g0 (append c draw m s).1 (ms++(append c draw m s).2):=by
 have hi:=hG.1
 unfold Rf.append
 simp only
 have h1:Good n nd i net g0 (Rf.follow c draw m.term m.src s) ms:=hG.follow _ _
 have hterm:(Rf.follow c draw m.term m.src s).term=m.term:=by show max s.term m.term=m.term;omega
 have hrole:(Rf.follow c draw m.term m.src s).role=1:=rfl
 generalize Rf.follow c draw m.term m.src s=s1 at h1 hterm hrole ⊢
 have hlid:∀ g,Inv n (setN nd i s1) (net++ms) g→g.lid s1.term≠0:=fun g hI=>by
  have hM:=Good.msg hI hm
  rw [hterm,(hM.app hk).1];have:=hM.rng.1.1;omega
 have hT1:1≤s1.term:=by
  obtain ⟨_,g,hI,_⟩:=h1
  rw [hterm];exact (Good.msg hI hm).form.term
 have hpc:∀ g,Inv n (setN nd i s1) (net++ms) g→s1.commit≤s1.log.length∧s1.commit≤(g.llog s1.term).length∧s1.log.take s1.commit=(g.llog s1.term).take s1.commit:=fun g hI=>by
  obtain ⟨_,_,_,_,hcm,_,_,_⟩:=Good.nodeFacts hI
  rcases hcm.2 with h0 | ⟨t0,c',x,y,z,w⟩
  ·rw [h0];exact ⟨Nat.zero_le _,Nat.zero_le _,by simp⟩
  ·rcases Nat.lt_or_ge t0 s1.term with u | u
   ·have:=hI.comp t0 s1.term c' u (hlid g hI) z.1 z.2.1 z.choos
    exact ⟨hcm.1,by omega,by rw [w];exact (take_of_take this.2 y).symm⟩
   ·obtain rfl:t0=s1.term:=by omega
    exact ⟨hcm.1,Nat.le_trans y (z.len hI.ackL),w⟩
 split
 ·
  obtain ⟨_,g1,hI1,_⟩:=id h1
  exact h1.taken hm hd s1.commit s1.log s1.commit hrole (hpc g1 hI1).1 hT1 (fun g hI=>⟨hlid g hI,(hpc g hI).2.1,(hpc g hI).2.2,.inl rfl⟩) (fun g hI=>.inl rfl)
 ·split
  ·refine h1.send _ fun g hI x hx=>?_
   obtain rfl:=List.mem_singleton.1 hx
   rename_i hlt
   exact re_ok (.inr (.inr rfl)) hT1 hi (Good.nodeFacts hI).1 (Good.msg hI hm) hd (fun h=>by omega) (fun _ h=>by simp at h) (fun _ _=>.inl hlt) (fun _=>Nat.le_refl _)
  ·split
   ·rename_i hne
    refine h1.send _ fun g hI x hx=>?_
    obtain rfl:=List.mem_singleton.1 hx
    have hM:=Good.msg hI hm
    refine re_ok (.inr (.inr rfl)) hT1 hi (Good.nodeFacts hI).1 hM hd (fun h=>by omega) (fun _ h=>by simp at h) (fun _ _=>?_) (fun _=>Nat.le_refl _)
    have:m.idx≠0:=fun h0=>hne (by rw [(hM.form.zero (by omega)).2 h0,h0];rfl)
    omega
   ·rename_i h2 h3 h4
    have h4':tmL s1.log m.idx=m.lt:=Classical.byContradiction h4
    simp only
    have hspec:∀ g,Inv n (setN nd i s1) (net++ms) g→m.idx≤(merge s1.log m.idx m.es).2∧(merge s1.log m.idx m.es).2≤(g.llog s1.term).length∧(merge s1.log m.idx m.es).2≤(merge s1.log m.idx m.es).1.length∧(merge s1.log m.idx m.es).1.take (merge s1.log m.idx m.es).2=(g.llog s1.term).take (merge s1.log m.idx m.es).2∧((merge s1.log m.idx m.es).1=s1.log∨((merge s1.log m.idx m.es).1=(g.llog s1.term).take (merge s1.log m.idx m.es).2∧∀ k,k≤s1.log.length→s1.log.take k=(g.llog s1.term).take k→k≤(merge s1.log m.idx m.es).2))∧(merge s1.log m.idx m.es).2≤m.idx+m.es.length:=fun g hI=>by
     have hM:=Good.msg hI hm
     obtain ⟨a,b,d,f,_⟩:=hM.app hk
     rw [←hterm] at b d f
     have hidx:m.idx≤s1.log.length:=Nat.le_of_not_lt h3
     have hA:=(Good.nodeFacts hI).2.2.2.2.2.1
     refine merge_spec hA (hI.llA s1.term) m.es m.idx hidx b f ?_
     rcases Nat.eq_zero_or_pos m.idx with h0 | h0
     ·rw [h0];simp
     ·exact hA.same (hI.llA s1.term) h0 hidx (by omega) (by rw [h4',d])
    obtain ⟨_,g1,hI1,_⟩:=id h1
    refine h1.taken hm hd (merge s1.log m.idx m.es).2 (merge s1.log m.idx m.es).1 (max s1.commit (min m.commit (merge s1.log m.idx m.es).2)) hrole (hspec g1 hI1).2.2.1 hT1 (fun g hI=>⟨hlid g hI,(hspec g hI).2.1,(hspec g hI).2.2.2.1,(hspec g hI).2.2.2.2.1⟩) (fun g hI=>?_)
    by_cases hx:min m.commit (merge s1.log m.idx m.es).2≤s1.commit
    ·exact .inl (Nat.max_eq_left hx)
    ·rw [Nat.max_eq_right (by omega)]
     have hM:=Good.msg hI hm
     have hcm:=(hM.app hk).2.2.2.2
     rw [←hterm] at hcm
     refine .inr ⟨Nat.min_le_right ..,⟨Nat.le_trans (Nat.min_le_left ..) hcm.1,?_⟩⟩
     rcases hcm.2 with h0 | ⟨t0,c',x,y,z,w⟩
     ·left;rw [h0];simp
     ·exact .inr ⟨t0,c',x,Nat.le_trans (Nat.min_le_left ..) y,z,take_of_take w (Nat.min_le_left ..)⟩
theorem Good.appendReply (hG:Good n nd i net g0 s ms) (hb:c.batch≤16) (hn:c.n=n) (hm:m∈net) (hd:m.dst=i) (hk:m.kind=6) (ht:m.term=s.term):Good n nd i net g0 (appendReply c m s).1 (ms++(appendReply c m s).2):=by
 have hi:=hG.1
 unfold Rf.appendReply
 split
 ·rw [List.append_nil];exact hG
 ·rename_i hne
  have h4:s.role=4:=Classical.byContradiction hne
  simp only
  have h1:Good n nd i net g0 { s with hd:=put s.hd m.src } ms:=hG.soft ⟨rfl,rfl,rfl,rfl,rfl,.inl rfl,rfl,rfl,.inl rfl⟩
  obtain ⟨_,g1,hI1,_⟩:=id hG
  have hM1:=Good.msg hI1 hm
  have hsrc:m.src≠i:=by rw [←hd];exact hM1.form.ne
  have hid:=(Good.nodeFacts hI1).1
  have hpo:m.src∈others c s.id:=mem_others.2 ⟨by rw [hn];exact hM1.rng.1,by rw [hid];exact hsrc⟩
  have hnx:=(Good.nodeFacts hI1).2.2.1 h4
  have turn:∀ v w,(∀ g,Inv n (setN nd i s) (net++ms) g→v≤g.ack s.term m.src)→v<w→w≤s.log.length+1→Good n nd i net g0 { s with hd:=put s.hd m.src,mt:=upd s.mt m.src v,nx:=upd s.nx m.src w } ms:=fun v w hv hvw hw=>by
   refine hG.node rfl (Nat.le_refl _) rfl (by rw [if_neg (Nat.lt_irrefl _)]) ?_ ?_ ?_ ?_ ?_
   ·refine fun _=>⟨h4,rfl,fun p hp=>?_⟩
    show upd s.mt m.src v p<upd s.nx m.src w p∧upd s.nx m.src w p≤s.log.length+1
    unfold upd
    by_cases hx:p=m.src
    ·rw [if_pos hx,if_pos hx];exact ⟨hvw,hw⟩
    ·rw [if_neg hx,if_neg hx];exact hnx p hp
   ·intro g hI _ p hp
    show upd s.mt m.src v p≤g.ack s.term p
    unfold upd
    by_cases hx:p=m.src
    ·rw [if_pos hx,hx];exact hv g hI
    ·rw [if_neg hx];exact ((Good.nodeFacts hI).2.1 h4).2.2.2 p hp
   ·intro h;exact absurd (show s.role=3 from h) (by omega)
   ·intro g hI h;exact absurd (show s.role=3 from h) (by omega)
   ·exact fun g hI=>(Good.nodeFacts hI).2.2.2.2.1
  have hupd:∀ f:Nat→Nat,upd f m.src (f m.src)=f:=fun f=>by
   funext q
   unfold upd
   split
   ·rename_i h;rw [h]
   ·rfl
  have one:∀ (s':Nd) (ms':List Msg),s'.role=4→s'.id=s.id→Good n nd i net g0 s' ms'→Good n nd i net g0 s' (ms'++[app c s' m.src]):=fun s' ms' hr hid' hg=>by
   refine hg.send _ fun g hI x hx=>?_
   obtain rfl:=List.mem_singleton.1 hx
   exact app_ok hb hn hI hi hr (by rw [hid'];exact hpo)
  split
  ·split
   ·have:=turn (s.mt m.src) (min (max (s.mt m.src) m.hint+1) (s.fin+1)) (fun g hI=>((Good.nodeFacts hI).2.1 h4).2.2.2 _ hsrc) (by have:=hnx m.src hsrc;show s.mt m.src<min (max (s.mt m.src) m.hint+1) (s.log.length+1);omega) (Nat.min_le_right ..)
    rw [hupd] at this
    exact one { s with hd:=put s.hd m.src,nx:=upd s.nx m.src (min (max (s.mt m.src) m.hint+1) (s.fin+1)) } ms h4 rfl this
   ·rw [List.append_nil];exact h1
  ·split
   ·rename_i hr _
    have h2:=turn m.idx (m.idx+1) (fun g hI=>by
      have:=(Good.msg hI hm).took hk (by simpa using hr)
      rw [ht] at this;exact this) (Nat.lt_succ_self _) (by
      have a:=hM1.took hk (by simpa using hr)
      rw [ht] at a
      have b:=hI1.ackL s.term m.src
      rw [((Good.nodeFacts hI1).2.1 h4).2.1] at b
      omega)
    have h3:=h2.count (c:=c) hn h4
    split
    ·exact h3.apps hb hn h4
    ·split
     ·exact one _ ms h4 rfl h3
     ·rw [List.append_nil];exact h3
   ·rw [List.append_nil];exact h1
theorem Good.message (hG:Good n nd i net g0 s ms) (hb:c.batch≤16) (hn:c.n=n) (hm:m∈net) (hd:m.dst=i):Good n nd i net g0 (message c draw m s).1 (ms++(message c draw m s).2):=by
 have kinds:∀ s',Good n nd i net g0 s' ms→(3≤m.kind→m.term=s'.term)→Good n nd i net g0 (kinds c draw m s').1 (ms++(kinds c draw m s').2):=fun s' hg ht=>by
  unfold Rf.kinds
  split
  ·exact hg.preVote hm hd
  ·exact hg.preReply hb hn
  ·exact hg.vote hm hd (by assumption) (ht (by omega))
  ·exact hg.voteReply hb hn hm hd (by assumption) (ht (by omega))
  ·exact hg.append hm hd (by assumption) (ht (by omega))
  ·exact hg.appendReply hb hn hm hd (by assumption) (ht (by omega))
  ·rw [List.append_nil];exact hg
 unfold Rf.message
 split
 ·rw [List.append_nil];exact hG
 ·split
  ·rename_i h1 h2
   exact kinds _ (hG.follow _ _) fun _=>by show m.term=max s.term m.term;omega
  ·split
   ·rename_i h1 h2 h3
    exact hG.old hm hd h3
   ·rename_i h1 h2 h3
    refine kinds _ hG fun hk=>?_
    refine Classical.byContradiction fun hne=>h2 ⟨by omega,by omega,.inl (by omega)⟩
end
end Go.Proofs.YtocogcgnahbpkaaGreat.Rf
