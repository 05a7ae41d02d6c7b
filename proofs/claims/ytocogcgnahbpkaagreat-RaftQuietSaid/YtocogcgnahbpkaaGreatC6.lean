import Derived.Test.YtocogcgnahbpkaaGreatC5
namespace Go.Proofs.YtocogcgnahbpkaaGreat.Rf
def Wd.tk (c:Cfg) (d:Nat→Int) (w:Wd) (i:Nat):Wd:=⟨setN w.nd i (tick c (d i) (w.nd i)).1,w.net++(tick c (d i) (w.nd i)).2⟩
def Wd.tks (c:Cfg) (d:Nat→Int) (w:Wd) (l:List Nat):Wd:=l.foldl (Wd.tk c d) w
section
variable {n:Nat} {nd nd0:Nat→Nd} {g g' g0:Gh} {net net' r:List Msg} {i:Nat} {s s':Nd} {ms ms':List Msg} {c:Cfg} {draw:Int} {d:Nat→Int} {m x:Msg} {K:Nat}
theorem tks_nd (c:Cfg) (d:Nat→Int) (l:List Nat):∀ w:Wd,l.Nodup→∀ j,(w.tks c d l).nd j=if j∈l then (tick c (d j) (w.nd j)).1 else w.nd j:=by
 induction l with
 | nil=>intro w _ j;rfl
 | cons a l ih =>
  intro w hn j
  obtain ⟨h1,h2⟩:=List.nodup_cons.1 hn
  show ((w.tk c d a).tks c d l).nd j=_
  rw [ih _ h2 j]
  by_cases hj:j=a
  ·subst hj
   rw [if_neg h1,if_pos (by simp)]
   exact setN_at ..
  ·have:(w.tk c d a).nd j=w.nd j:=setN_ne _ _ hj
   rw [this]
   by_cases hl:j∈l
   ·rw [if_pos hl,if_pos (by simp [hl])]
   ·rw [if_neg hl,if_neg (by simp [hj,hl])]
theorem tks_net (c:Cfg) (d:Nat→Int) (l:List Nat):∀ w:Wd,l.Nodup→(w.tks c d l).net=w.net++l.flatMap fun j=>(tick c (d j) (w.nd j)).2:=by
 induction l with
 | nil=>intro w _;simp [Wd.tks]
 | cons a l ih =>
  intro w hn
  obtain ⟨h1,h2⟩:=List.nodup_cons.1 hn
  show ((w.tk c d a).tks c d l).net=_
  rw [ih _ h2]
  have e:(l.flatMap fun j=>(tick c (d j) ((w.tk c d a).nd j)).2)=l.flatMap fun j=>(tick c (d j) (w.nd j)).2:=by
   unfold List.flatMap
   congr 1
   refine List.map_congr_left fun j hj=>?_
   have:(w.tk c d a).nd j=w.nd j:=setN_ne _ _ fun e=>h1 (by rw [←e];exact hj)
   rw [this]
  rw [e,List.flatMap_cons,←List.append_assoc]
  rfl
theorem stand_fin:(stand c draw s).1.fin≤s.fin+1∧(stand c draw s).1.fin+lw (stand c draw s).1≤s.fin+1:=by
 have hlead:∀ s1:Nd,(lead c s1).1.fin≤s1.fin+1:=fun s1=>by
  unfold lead
  simp only
  split
  ·show (s1.log++[_]).length≤s1.log.length+1
   rw [List.length_append];exact Nat.le_refl _
  ·exact Nat.le_succ _
 unfold stand
 simp only
 split
 ·have:=hlead (rest c draw { s with term:=s.term+1,vote:=s.id,role:=3,leader:=0,gr:=[s.id],rf:=[] })
  have h0:lw (lead c (rest c draw { s with term:=s.term+1,vote:=s.id,role:=3,leader:=0,gr:=[s.id],rf:=[] })).1=0:=by unfold lw;rw [if_neg (by rw [lead_role];omega)]
  rw [h0]
  exact ⟨this,this⟩
 ·exact ⟨Nat.le_succ _,Nat.le_refl _⟩
theorem begin_bnd:(begin_ c draw s).1.fin+lw (begin_ c draw s).1≤s.fin+lw s+1∧(begin_ c draw s).1.fin≤s.fin+1∧(begin_ c draw s).1.term+pw (begin_ c draw s).1≤s.term+pw s+1:=by
 have key:∀ s1:Nd,s1.fin=s.fin→s1.term=s.term→(stand c draw s1).1.fin+lw (stand c draw s1).1≤s.fin+lw s+1∧(stand c draw s1).1.fin≤s.fin+1∧(stand c draw s1).1.term+pw (stand c draw s1).1≤s.term+pw s+1:=fun s1 e1 e2=>by
  have h1:=stand_fin (c:=c) (draw:=draw) (s:=s1)
  have h2:=stand_term (c:=c) (draw:=draw) (s:=s1)
  have h3:=stand_role' (c:=c) (draw:=draw) (s:=s1)
  have h4:pw (stand c draw s1).1=0:=by unfold pw;rw [if_neg (by omega)]
  omega
 unfold begin_
 simp only
 split
 ·refine ⟨Nat.le_succ _,Nat.le_succ _,Nat.le_succ _⟩
 ·split
  ·exact key _ rfl rfl
  ·refine ⟨?_,Nat.le_succ _,?_⟩
   ·show s.fin+1≤s.fin+lw s+1
    omega
   ·show s.term+1≤s.term+pw s+1
    omega
theorem tick_bnd:(tick c draw s).1.fin+lw (tick c draw s).1≤s.fin+lw s+1∧(tick c draw s).1.fin≤s.fin+1∧(tick c draw s).1.term+pw (tick c draw s).1≤s.term+pw s+1:=by
 unfold tick
 simp only
 by_cases h4:s.role≠4
 ·rw [if_pos h4]
  split
  ·exact begin_bnd (s:={ s with elapsed:=s.elapsed+1 })
  ·exact ⟨Nat.le_succ _,Nat.le_succ _,Nat.le_succ _⟩
 ·rw [if_neg h4]
  have h4:s.role=4:=by omega
  split
  ·refine ⟨?_,Nat.le_succ _,?_⟩
   ·show s.fin+0≤_;omega
   ·show max s.term s.term+0≤_;omega
  ·by_cases he:c.most≤s.elapsed+1
   ·simp only [if_pos he]
    split <;> exact ⟨Nat.le_succ _,Nat.le_succ _,Nat.le_succ _⟩
   ·simp only [if_neg he]
    split <;> exact ⟨Nat.le_succ _,Nat.le_succ _,Nat.le_succ _⟩
theorem tick_out5 (hx:x∈(tick c draw s).2) (hk:x.kind=5):(tick c draw s).1.role=4∧∃ p,p∈others c (tick c draw s).1.id∧x=app c (tick c draw s).1 p:=by
 have hb:∀ s:Nd,x∈(begin_ c draw s).2→(begin_ c draw s).1.role=4∧∃ p,p∈others c (begin_ c draw s).1.id∧x=app c (begin_ c draw s).1 p:=fun s hx=>by
  unfold begin_ at hx ⊢
  simp only at hx ⊢
  split at hx
  ·exact absurd hx (by simp)
  ·rename_i h1
   rw [if_neg h1]
   split at hx
   ·rename_i h2
    rw [if_pos h2]
    unfold stand at hx ⊢
    simp only at hx ⊢
    rw [if_pos h2] at hx ⊢
    obtain ⟨_,p,hp,b⟩:=mem_apps hx
    exact ⟨lead_role,p,hp,b⟩
   ·obtain ⟨p,_,rfl⟩:=List.mem_map.1 hx
    exact absurd hk (by show ¬ ((1:Nat)=5);omega)
 unfold tick at hx ⊢
 simp only at hx ⊢
 by_cases h4:s.role≠4
 ·rw [if_pos h4] at hx ⊢
  split at hx
  ·rename_i h1;rw [if_pos h1];exact hb _ hx
  ·exact absurd hx (by simp)
 ·rw [if_neg h4] at hx ⊢
  have h4:s.role=4:=by omega
  split at hx
  ·exact absurd hx (by simp)
  ·rename_i h1
   rw [if_neg h1]
   by_cases he:c.most≤s.elapsed+1
   ·simp only [if_pos he] at hx ⊢
    split at hx
    ·rename_i h2
     rw [if_pos h2]
     obtain ⟨_,p,hp,b⟩:=mem_apps hx
     exact ⟨h4,p,hp,b⟩
    ·exact absurd hx (by simp)
   ·simp only [if_neg he] at hx ⊢
    split at hx
    ·rename_i h2
     rw [if_pos h2]
     obtain ⟨_,p,hp,b⟩:=mem_apps hx
     exact ⟨h4,p,hp,b⟩
    ·exact absurd hx (by simp)
theorem Ok.own {w:Wd} (h:Ok c K w g) (hi:1≤i∧i≤c.n) {y:Nd×List Msg} (hG:∀ g0 ms,Good c.n w.nd i w.net g0 (w.nd i) ms→Good c.n w.nd i w.net g0 y.1 (ms++y.2)) (hs:Soft c y.1) {k:Nat} (hK:K+k<65536)
  (h1:y.1.fin+lw y.1≤(w.nd i).fin+lw (w.nd i)+k) (h2:lw y.1≤lw (w.nd i)+k) (h3:y.1.term+pw y.1≤(w.nd i).term+pw (w.nd i)+k) (h4:pw y.1≤pw (w.nd i)+k)
  (h5:∀ x∈y.2,x.kind=5→y.1.role=4∧∃ p,p∈others c y.1.id∧x=app c y.1 p):∃ g',Ok c (K+k) ⟨setN w.nd i y.1,w.net++y.2⟩ g'∧Ext w.nd (setN w.nd i y.1) g g':=by
 obtain ⟨g',a,b⟩:=Inv.own (net':=w.net++y.2) h.inv hi hG fun z hz=>List.mem_append.1 hz
 have hl:=cnt_turn (c:=c) (nd:=w.nd) (f:=lw) (s:=y.1) hi
 have hp:=cnt_turn (c:=c) (nd:=w.nd) (f:=pw) (s:=y.1) hi
 refine ⟨g',⟨a,fun j=>?_,⟨fun j=>?_,fun j=>?_,fun x hx hk=>?_⟩,hK⟩,b⟩
 ·show Soft c (setN w.nd i y.1 j)
  by_cases hj:j=i
  ·subst hj;rw [setN_at];exact hs
  ·rw [setN_ne _ _ hj];exact h.soft j
 ·show (setN w.nd i y.1 j).fin+cnt c lw (setN w.nd i y.1)≤K+k
  by_cases hj:j=i
  ·subst hj
   rw [setN_at]
   have:=h.bnd.fin j
   omega
  ·rw [setN_ne _ _ hj]
   have:=h.bnd.fin j
   omega
 ·show (setN w.nd i y.1 j).term+cnt c pw (setN w.nd i y.1)≤K+k
  by_cases hj:j=i
  ·subst hj
   rw [setN_at]
   have:=h.bnd.term j
   omega
  ·rw [setN_ne _ _ hj]
   have:=h.bnd.term j
   omega
 ·show x.idx+x.es.length+cnt c lw (setN w.nd i y.1)≤K+k
  rcases List.mem_append.1 hx with z | z
  ·have:=h.bnd.net x z hk
   omega
  ·obtain ⟨hr4,p,hp',hxp⟩:=h5 x z hk
   have h6:=a.nxt i (by show (setN w.nd i y.1 i).role=4;rw [setN_at];exact hr4)
   have h7:=a.ids i
   change (setN w.nd i y.1 i).id=i at h7
   change ∀ p,p≠i→(setN w.nd i y.1 i).mt p<(setN w.nd i y.1 i).nx p∧(setN w.nd i y.1 i).nx p≤(setN w.nd i y.1 i).log.length+1 at h6
   rw [setN_at] at h6 h7
   have h8:=h6 p (by rw [←h7];exact (mem_others.1 hp').2)
   have h9:x.idx+x.es.length≤y.1.fin:=by
    rw [hxp]
    show y.1.nx p-1+((y.1.log.drop (y.1.nx p-1)).take c.batch).length≤y.1.log.length
    rw [List.length_take,List.length_drop]
    omega
   have:=h.bnd.fin i
   omega
theorem Ok.tk {w:Wd} (h:Ok c K w g) (hc:CfgOK c) (hi:1≤i∧i≤c.n) (hK:K+1<65536):∃ g',Ok c (K+1) (w.tk c d i) g'∧Ext w.nd (w.tk c d i).nd g g':=by
 have hb:=tick_bnd (c:=c) (draw:=d i) (s:=w.nd i)
 have l1:∀ s:Nd,lw s≤1:=fun s=>by unfold lw;split <;> omega
 have p1:∀ s:Nd,pw s≤1:=fun s=>by unfold pw;split <;> omega
 have hf:=h.bnd.fin i
 exact h.own hi (fun g0 ms hg=>hg.tick hc.batch.2 rfl) (soft_tick hc (h.soft i) (by omega)) hK hb.1 (by have:=l1 (Rf.tick c (d i) (w.nd i)).1;omega) hb.2.2 (by have:=p1 (Rf.tick c (d i) (w.nd i)).1;omega) (fun x hx hk=>tick_out5 hx hk)
theorem Ok.tks (hc:CfgOK c) (l:List Nat):∀ (K:Nat) (w:Wd) (g:Gh),Ok c K w g→(∀ i∈l,1≤i∧i≤c.n)→K+l.length<65536→∃ g',Ok c (K+l.length) (w.tks c d l) g'∧Ext w.nd (w.tks c d l).nd g g':=by
 induction l with
 | nil=>intro K w g h _ _;exact ⟨g,h,.refl fun _=>Nat.le_refl _⟩
 | cons a l ih =>
  intro K w g h hl hK
  rw [List.length_cons] at hK ⊢
  obtain ⟨g1,h1,e1⟩:=h.tk (d:=d) hc (hl a (by simp)) (by omega)
  obtain ⟨g2,h2,e2⟩:=ih (K+1) (w.tk c d a) g1 h1 (fun i hi=>hl i (by simp [hi])) (by omega)
  exact ⟨g2,by rw [show K+(l.length+1)=K+1+l.length by omega];exact h2,e1.trans e2⟩
end
section
variable {n:Nat} {nd nd0:Nat→Nd} {g g' g0:Gh} {net net' r o:List Msg} {i f:Nat} {s s':Nd} {ms ms':List Msg} {c:Cfg} {draw:Int} {d:Nat→Int} {m x:Msg} {K:Nat}
theorem maj1 (h:2≤c.n):¬ (maj c 1=true):=by
 unfold maj
 simp
 omega
theorem tick_wait (h4:s.role≠4) (h:s.elapsed+1<s.timeout):tick c draw s=({ s with elapsed:=s.elapsed+1 },[]):=by
 unfold tick
 simp only
 rw [if_pos h4,if_neg (by omega)]
def ask (c:Cfg) (s:Nd):List Msg:=(others c s.id).map fun p=>{ kind:=1,src:=s.id,dst:=p,term:=s.term+1,idx:=s.fin,lt:=s.tm s.fin }
theorem tick_begin (h2:2≤c.n) (h4:s.role≠4) (h:s.timeout≤s.elapsed+1) (ht:s.term<65536) (hf:s.fin<65536):tick c draw s=({ s with elapsed:=0,timeout:=rnd c draw,role:=2,leader:=0,gr:=[s.id] },ask c s):=by
 unfold tick
 simp only
 rw [if_pos h4,if_pos h]
 unfold begin_
 simp only
 have hs:¬ (stuck (rest c draw { s with elapsed:=s.elapsed+1 })=true):=by
  unfold stuck rest Nd.fin
  unfold Nd.fin at hf
  simp
  omega
 rw [if_neg hs,if_neg (maj1 h2)]
 rfl
theorem tick_lead (h4:s.role=4):((tick c draw s).1.role=1∧(tick c draw s).1.term=s.term∧(tick c draw s).1.log=s.log∧(tick c draw s).1.leader=0∧(tick c draw s).1.elapsed=0∧(tick c draw s).1.timeout=rnd c draw∧(tick c draw s).2=[])
  ∨((tick c draw s).1.role=4∧(tick c draw s).1.term=s.term∧(tick c draw s).1.log=s.log∧(tick c draw s).1.id=s.id∧(((tick c draw s).1.beat=0∧(tick c draw s).2=apps c (tick c draw s).1)∨((tick c draw s).1.beat=s.beat+1∧s.beat+1<c.beat∧(tick c draw s).2=[]))):=by
 unfold tick
 simp only
 rw [if_neg (by omega)]
 split
 ·left
  exact ⟨rfl,by show max s.term s.term=s.term;omega,rfl,rfl,rfl,rfl,rfl⟩
 ·right
  by_cases he:c.most≤s.elapsed+1
  ·simp only [if_pos he]
   split
   ·exact ⟨h4,rfl,rfl,rfl,.inl ⟨rfl,rfl⟩⟩
   ·exact ⟨h4,rfl,rfl,rfl,.inr ⟨rfl,by omega,rfl⟩⟩
  ·simp only [if_neg he]
   split
   ·exact ⟨h4,rfl,rfl,rfl,.inl ⟨rfl,rfl⟩⟩
   ·exact ⟨h4,rfl,rfl,rfl,.inr ⟨rfl,by omega,rfl⟩⟩
theorem all_nodup (c:Cfg):(List.range' 1 c.n).Nodup:=List.nodup_range' (step:=1) (by omega)
theorem mem_all {p:Nat}:p∈List.range' 1 c.n↔1≤p∧p≤c.n:=by rw [List.mem_range'_1];omega
def tick1 (c:Cfg) (d:Nat→Int) (w:Wd):Wd:=w.tks c d (List.range' 1 c.n)
theorem tick1_nd {w:Wd} {p:Nat} (h:1≤p∧p≤c.n):(tick1 c d w).nd p=(tick c (d p) (w.nd p)).1:=by
 unfold tick1
 rw [tks_nd c d _ w (all_nodup c),if_pos (mem_all.2 h)]
theorem tick1_out {w:Wd} {p:Nat} (h:¬ (1≤p∧p≤c.n)):(tick1 c d w).nd p=w.nd p:=by
 unfold tick1
 rw [tks_nd c d _ w (all_nodup c),if_neg (fun x=>h (mem_all.1 x))]
theorem tick1_net {w:Wd} (h:w.net=[]):x∈(tick1 c d w).net↔∃ p,(1≤p∧p≤c.n)∧x∈(tick c (d p) (w.nd p)).2:=by
 unfold tick1
 rw [tks_net c d _ w (all_nodup c),h,List.nil_append,List.mem_flatMap]
 constructor
 ·rintro ⟨p,a,b⟩;exact ⟨p,mem_all.1 a,b⟩
 ·rintro ⟨p,a,b⟩;exact ⟨p,mem_all.2 a,b⟩
structure Tkd (c:Cfg) (draw:Int) (s:Nd) (y:Nd×List Msg):Prop where
 id:y.1.id=s.id
 term:y.1.term=s.term
 log:y.1.log=s.log
 vote:y.1.vote=s.vote
 cases:(s.role≠4∧s.elapsed+1<s.timeout∧y=({ s with elapsed:=s.elapsed+1 },[]))
  ∨(s.role≠4∧s.timeout≤s.elapsed+1∧y=({ s with elapsed:=0,timeout:=rnd c draw,role:=2,leader:=0,gr:=[s.id] },ask c s))
  ∨(s.role=4∧y.1.role=1∧y.1.leader=0∧y.1.elapsed=0∧y.1.timeout=rnd c draw∧y.2=[])
  ∨(s.role=4∧y.1.role=4∧((y.1.beat=0∧y.2=apps c y.1)∨(y.1.beat=s.beat+1∧s.beat+1<c.beat∧y.2=[])))
theorem tick_vote (h4:s.role=4):(tick c draw s).1.vote=s.vote∧(tick c draw s).1.id=s.id:=by
 unfold tick
 simp only
 rw [if_neg (by omega)]
 split
 ·exact ⟨by show (if s.term<s.term then 0 else s.vote)=s.vote;rw [if_neg (Nat.lt_irrefl _)],rfl⟩
 ·by_cases he:c.most≤s.elapsed+1
  ·simp only [if_pos he]
   split <;> exact ⟨rfl,rfl⟩
  ·simp only [if_neg he]
   split <;> exact ⟨rfl,rfl⟩
theorem tkd (h2:2≤c.n) (ht:s.term<65536) (hf:s.fin<65536):Tkd c draw s (tick c draw s):=by
 by_cases h4:s.role≠4
 ·by_cases he:s.elapsed+1<s.timeout
  ·have:=tick_wait (c:=c) (draw:=draw) h4 he
   rw [this]
   exact ⟨rfl,rfl,rfl,rfl,.inl ⟨h4,he,rfl⟩⟩
  ·have:=tick_begin (draw:=draw) h2 h4 (by omega) ht hf
   rw [this]
   exact ⟨rfl,rfl,rfl,rfl,.inr (.inl ⟨h4,by omega,rfl⟩)⟩
 ·have h4:s.role=4:=by omega
  have hv:=tick_vote (c:=c) (draw:=draw) h4
  rcases tick_lead (c:=c) (draw:=draw) h4 with ⟨a,b,e,l⟩ | ⟨a,b,e,_,l⟩
  ·exact ⟨hv.2,b,e,hv.1,.inr (.inr (.inl ⟨h4,a,l⟩))⟩
  ·exact ⟨hv.2,b,e,hv.1,.inr (.inr (.inr ⟨h4,a,l⟩))⟩
theorem Ok.tkd {w:Wd} (h:Ok c K w g) (h2:2≤c.n) (p:Nat):Tkd c (d p) (w.nd p) (tick c (d p) (w.nd p)) :=
 Rf.tkd h2 (by have:=h.bnd.term p;have:=h.small;omega) (h.soft p).len
theorem Ok.tick1 {w:Wd} (h:Ok c K w g) (hc:CfgOK c) (hK:K+c.n<65536):∃ g',Ok c (K+c.n) (tick1 c d w) g'∧Ext w.nd (Rf.tick1 c d w).nd g g':=by
 have:=Ok.tks (d:=d) hc (List.range' 1 c.n) K w g h (fun i hi=>mem_all.1 hi) (by rw [List.length_range'];exact hK)
 rw [List.length_range'] at this
 exact this
theorem Com.start {w:Wd} (h:Ok c K w g) (h2:2≤c.n) (h0:w.net=[]) (hb0:∀ p,upTo (w.nd f).log (w.nd p).log) (hI1:Inv c.n (tick1 c d w).nd (tick1 c d w).net g') (hE:Ext w.nd (tick1 c d w).nd g g') :
  Com c d f w.nd g g' (tick1 c d w).nd (tick1 c d w).net:=by
 have hlog:∀ p,((tick1 c d w).nd p).log=(w.nd p).log:=fun p=>by
  by_cases hp:1≤p∧p≤c.n
  ·rw [tick1_nd hp];exact (h.tkd h2 p).log
  ·rw [tick1_out hp]
 have hterm:∀ p,((tick1 c d w).nd p).term=(w.nd p).term:=fun p=>by
  by_cases hp:1≤p∧p≤c.n
  ·rw [tick1_nd hp];exact (h.tkd h2 p).term
  ·rw [tick1_out hp]
 have hled:∀ p,((tick1 c d w).nd p).role=4→(w.nd p).role=4:=fun p=>by
  by_cases hp:1≤p∧p≤c.n
  ·rw [tick1_nd hp]
   intro hr
   rcases (h.tkd (d:=d) h2 p).cases with ⟨a,_,b⟩ | ⟨_,_,b⟩ | b | b
   ·rw [b] at hr;exact hr
   ·rw [b] at hr;exact absurd (show (2:Nat)=4 from hr) (by omega)
   ·omega
   ·exact b.1
  ·rw [tick1_out hp];exact id
 refine ⟨hE,fun p hp=>?_,fun p hr=>⟨hled p hr,hterm p,hlog p⟩,⟨hlog f,fun p=>by rw [hlog];exact hb0 p⟩,fun x hx hk=>?_,fun p h1 h2' hr=>?_,fun p h1 h2' hr=>?_⟩
 ·rw [tick1_nd hp.1]
  rcases (h.tkd (d:=d) h2 p).cases with ⟨_,a,_⟩ | ⟨_,_,b⟩ | b | b
  ·have:=hp.2.2;omega
  ·rw [b]
   exact ⟨by show ¬ ((2:Nat)=4);omega,fun _=>rfl,fun h=>absurd (show (2:Nat)=3 from h) (by omega)⟩
  ·exact absurd b.1 hp.2.1
  ·exact absurd b.1 hp.2.1
 ·obtain ⟨p,hp,hxp⟩:=(tick1_net h0).1 hx
  obtain ⟨hr4,q,hq,hxq⟩:=tick_out5 hxp hk
  have hnd:=tick1_nd (d:=d) (w:=w) hp
  have h5:=hI1.nxt p (by rw [hnd];exact hr4) q (by rw [(h.tkd h2 p).id,h.inv.ids] at hq;exact (mem_others.1 hq).2)
  rw [hnd] at h5
  have hid:(tick c (d p) (w.nd p)).1.id=p:=by rw [(h.tkd h2 p).id,h.inv.ids]
  have hsrc:x.src=p:=by rw [hxq];exact hid
  have hl:=(h.tkd (d:=d) h2 p).log
  have hr0:=hled p (by rw [hnd];exact hr4)
  unfold Slice
  rw [hsrc]
  refine ⟨hr0,by rw [hxq];exact (h.tkd h2 p).term,?_,?_,?_⟩
  ·rw [hxq,←hl]
   show (tick c (d p) (w.nd p)).1.nx q-1+(((tick c (d p) (w.nd p)).1.log.drop ((tick c (d p) (w.nd p)).1.nx q-1)).take c.batch).length≤_
   rw [List.length_take,List.length_drop]
   omega
  ·rw [hxq,←hl];rfl
  ·rw [hxq,←hl]
   show ((tick c (d p) (w.nd p)).1.log.drop ((tick c (d p) (w.nd p)).1.nx q-1)).take c.batch=((tick c (d p) (w.nd p)).1.log.drop ((tick c (d p) (w.nd p)).1.nx q-1)).take (((tick c (d p) (w.nd p)).1.log.drop ((tick c (d p) (w.nd p)).1.nx q-1)).take c.batch).length
   rw [List.length_take,←List.take_take,List.take_length]
 ·have hp:=And.intro h1 h2'
  rw [tick1_nd hp] at hr ⊢
  rcases (h.tkd (d:=d) h2 p).cases with ⟨a,_,b⟩ | ⟨_,_,b⟩ | b | b
  ·rw [b];exact .inr ⟨rfl,rfl,a⟩
  ·rw [b];exact .inl ⟨rfl,rfl⟩
  ·exact .inl ⟨b.2.2.2.1,b.2.2.2.2.1⟩
  ·exact absurd b.2.1 hr
 ·rw [tick1_nd ⟨h1,h2'⟩] at hr ⊢
  exact ⟨hr,rfl⟩
theorem rise (hI:Inv c.n nd net g) (hm:m∈net) {T:Nat} (h:T<(message c draw m (nd m.dst)).1.term):(∃ p,(1≤p∧p≤c.n)∧T<(nd p).term)∨((nd m.dst).role=2∧m.kind=2∧m.rej=false∧(message c draw m (nd m.dst)).1.term=(nd m.dst).term+1):=by
 have hM:=(hI.msgs m hm).1
 have htO:=(hI.msgs m hm).2
 rcases message_term (c:=c) (draw:=draw) (m:=m) (s:=nd m.dst) with y | ⟨_,y,z⟩ | ⟨y,z,u,_,v⟩
 ·exact .inl ⟨m.dst,hM.rng.2,by omega⟩
 ·refine .inl ⟨m.src,hM.rng.1,?_⟩
  have:m.term≤(nd m.src).term:=by
   rcases z with z | ⟨z,z'⟩ | z
   ·exact htO.2.2 z
   ·exact htO.2.1 z z'
   ·have:=hM.form.kind;omega
  omega
 ·exact .inr ⟨y,z,u,v⟩
def Above (c:Cfg) (nd:Nat→Nd) (T:Nat):Prop:=∃ p,(1≤p∧p≤c.n)∧T<(nd p).term
structure V1 (c:Cfg) (nd0 nd:Nat→Nd) (r o:List Msg):Prop where
 rk:∀ m∈r,(m.kind=1∧bg c nd0 m.src∧m.term=(nd0 m.src).term+1)∨m.kind=5
 ok:∀ m∈o,(m.kind=2∧bg c nd0 m.dst)∨m.kind=6
 rl:∀ L,bg c nd0 L→(nd L).role≠3
 v:∀ L,bg c nd0 L→(nd L).role=2→Above c nd ((nd0 L).term+1)→(∃ p,(1≤p∧p≤c.n)∧(nd0 L).term+1<(nd p).term∧∃ m∈r,m.kind=1∧m.src=L∧m.dst=p)∨(∃ m∈o,m.kind=2∧m.rej=true∧m.dst=L∧(nd0 L).term+1<m.term)
structure V2 (c:Cfg) (nd0 nd:Nat→Nd) (r o:List Msg):Prop where
 rk:∀ m∈r,(m.kind=2∧bg c nd0 m.dst)∨m.kind=6
 ok:∀ m∈o,(m.kind=3∧bg c nd0 m.src)∨m.kind=5
 v:∀ L,bg c nd0 L→(nd L).role=2∨(nd L).role=3→Above c nd ((nd0 L).term+1)→(∃ m∈r,m.kind=2∧m.rej=true∧m.dst=L∧(nd0 L).term+1<m.term)∨(∃ m∈o,m.kind=3∧m.dst=L∧(nd0 L).term+1<m.term)
structure V3 (c:Cfg) (nd0 nd:Nat→Nd) (r o:List Msg):Prop where
 rk:∀ m∈r,(m.kind=3∧bg c nd0 m.src)∨m.kind=5
 ok:∀ m∈o,(m.kind=4∧bg c nd0 m.dst)∨m.kind=6
 v:∀ L,bg c nd0 L→(nd L).role=2∨(nd L).role=3→Above c nd ((nd0 L).term+1)→(∃ m∈r,m.kind=3∧m.dst=L∧(nd0 L).term+1<m.term)
theorem no_lead (h2:2≤c.n) (hk:m.kind≠4) (h:(message c draw m s).1.role=4):s.role=4:=by
 rcases message_roles (c:=c) (draw:=draw) (m:=m) (s:=s) with y | y | y | y
 ·omega
 ·omega
 ·rcases y.2.2.2 with z | z
  ·omega
  ·exact absurd z.2 (maj1 h2)
 ·omega
theorem preVote_old (hk:m.kind=1) (h:m.term<s.term):∃ x,(message c draw m s).2=[x]∧x.kind=2∧x.rej=true∧x.dst=m.src∧x.term=s.term:=by
 refine ⟨re s m 2 s.term 0 true 0,?_,rfl,rfl,rfl,rfl⟩
 unfold message
 rw [if_neg (by omega),if_neg (by omega),if_pos h]
 unfold old
 rw [if_neg (by omega),if_pos hk]
theorem preVote_still (hk:m.kind=1):(message c draw m s).1=s:=by
 unfold message
 split
 ·rfl
 ·rw [if_neg (by omega)]
  split
  ·rfl
  ·unfold kinds
   simp only [hk]
   exact preVote_fst
theorem V1.step (h:V1 c nd0 nd (m :: r) o) (hI:Inv c.n nd (m :: r++o) g) (hE:∀ q,(nd q).term≤(setN nd m.dst (message c draw m (nd m.dst)).1 q).term):V1 c nd0 (setN nd m.dst (message c draw m (nd m.dst)).1) r (o++(message c draw m (nd m.dst)).2):=by
 have hm:m∈m :: r++o:=by simp
 have hk:=h.rk m (by simp)
 have hout:∀ x∈(message c draw m (nd m.dst)).2,(x.kind=2∧bg c nd0 x.dst)∨x.kind=6:=fun x hx=>by
  have ho:=out_message hx
  rcases ho.kinds with a | a | a | a | a
  ·rcases hk with k | k
   ·exact .inl ⟨a.2.1,by rw [a.2.2];exact k.2.1⟩
   ·omega
  ·omega
  ·exact .inr a.2.1
  ·omega
  ·omega
 refine ⟨fun x hx=>h.rk x (by simp [hx]),fun x hx=>?_,fun L hL=>?_,fun L hL hr hA=>?_⟩
 ·rcases List.mem_append.1 hx with y | y
  ·exact h.ok x y
  ·exact hout x y
 ·by_cases hLd:L=m.dst
  ·subst hLd
   rw [setN_at]
   have:=h.rl _ hL
   rcases message_roles (c:=c) (draw:=draw) (m:=m) (s:=nd m.dst) with y | y | y | y
   ·omega
   ·omega
   ·omega
   ·omega
  ·rw [setN_ne _ _ hLd];exact h.rl L hL
 ·
  have hr0:(nd L).role=2:=by
   by_cases hLd:L=m.dst
   ·subst hLd
    rw [setN_at] at hr
    rcases message_roles (c:=c) (draw:=draw) (m:=m) (s:=nd m.dst) with y | y | y | y
    ·omega
    ·omega
    ·omega
    ·omega
   ·rw [setN_ne _ _ hLd] at hr;exact hr
  have hA0:Above c nd ((nd0 L).term+1):=by
   obtain ⟨p,hp,ht⟩:=hA
   by_cases hpd:p=m.dst
   ·subst hpd
    rw [setN_at] at ht
    rcases rise hI hm ht with y | y
    ·exact y
    ·omega
   ·rw [setN_ne _ _ hpd] at ht;exact ⟨p,hp,ht⟩
  rcases h.v L hL hr0 hA0 with ⟨p,hp,ht,x,hx,k1,k2,k3⟩ | ⟨x,hx,k⟩
  ·rcases List.mem_cons.1 hx with rfl | hx
   ·right
    have hterm:x.term=(nd0 L).term+1:=by
     rcases hk with k | k
     ·rw [k.2.2,k2]
     ·omega
    obtain ⟨z,z1,z2,z3,z4,z5⟩:=preVote_old (c:=c) (draw:=draw) (s:=nd x.dst) k1 (by rw [hterm,k3];exact ht)
    exact ⟨z,List.mem_append_right _ (by rw [z1];simp),z2,z3,by rw [z4];exact k2,by rw [z5,k3];exact ht⟩
   ·exact .inl ⟨p,hp,Nat.lt_of_lt_of_le ht (hE p),x,hx,k1,k2,k3⟩
  ·exact .inr ⟨x,List.mem_append_left _ hx,k⟩
theorem message_stands (h2:2≤c.n) (hk:m.kind=2) (ht:(message c draw m s).1.term=s.term+1) (hj:m.rej=false):(message c draw m s).2=(others c s.id).map fun p=>{ kind:=3,src:=s.id,dst:=p,term:=s.term+1,idx:=s.fin,lt:=s.tm s.fin }:=by
 unfold message at ht ⊢
 split at ht
 ·exact absurd ht (by show ¬ s.term=s.term+1;omega)
 ·rename_i h1
  rw [if_neg h1]
  split at ht
  ·rename_i h3
   rcases h3.2.2 with y | y
   ·exact absurd hk y
   ·rw [hj] at y;exact absurd y (by simp)
  ·rename_i h3
   rw [if_neg h3]
   split at ht
   ·exact absurd ht (by show ¬ s.term=s.term+1;omega)
   ·rename_i h4
    rw [if_neg h4]
    unfold kinds at ht ⊢
    simp only [hk] at ht ⊢
    unfold preReply at ht ⊢
    split at ht
    ·exact absurd ht (by show ¬ s.term=s.term+1;omega)
    ·rename_i h5
     rw [if_neg h5]
     simp only at ht ⊢
     split at ht
     ·rename_i h6
      rw [if_pos h6]
      unfold stand
      simp only
      rw [if_neg (maj1 h2)]
      rfl
     ·exact absurd ht (by show ¬ s.term=s.term+1;omega)
theorem message_rej2 (hk:m.kind=2) (hj:m.rej=true) (ht:s.term<m.term):(message c draw m s).1.role=1∧(message c draw m s).1.term=m.term:=by
 unfold message
 rw [if_neg (by omega),if_pos ⟨ht,by omega,.inr hj⟩]
 unfold kinds
 simp only [hk]
 unfold preReply
 rw [if_pos (.inr (.inl hj))]
 exact ⟨rfl,by show max s.term m.term=m.term;omega⟩
theorem vote_keeps:(vote c draw m s).1.role=s.role∧(vote c draw m s).1.term=s.term:=by unfold vote;split <;> exact ⟨rfl,rfl⟩
theorem message_vote_high (hk:m.kind=3) (ht:s.term<m.term) (hl:led c s=false):(message c draw m s).1.role=1∧(message c draw m s).1.term=m.term:=by
 unfold message
 rw [if_neg (fun h=>by rw [hl] at h;exact absurd h.2.2 (by simp)),if_pos ⟨ht,by omega,.inl (by omega)⟩]
 have hkv:∀ s1,kinds c draw m s1=vote c draw m s1:=fun s1=>by unfold kinds;simp only [hk]
 rw [hkv,vote_keeps.1,vote_keeps.2]
 exact ⟨rfl,by show max s.term m.term=m.term;omega⟩
theorem led_no (hs:Soft c s) (hr:s.role=2∨s.role=3):led c s=false:=by
 unfold led
 rw [hs.pre hr]
 have:(s.role==4)=false:=by simp;omega
 rw [this]
 simp
theorem V2.step (h:V2 c nd0 nd (m :: r) o) (h2:2≤c.n) (hI:Inv c.n nd (m :: r++o) g) (hbg:∀ p,bg c nd0 p→(nd p).role≠4∧((nd p).role=2→(nd p).term=(nd0 p).term)∧((nd p).role=3→(nd p).term=(nd0 p).term+1)):V2 c nd0 (setN nd m.dst (message c draw m (nd m.dst)).1) r (o++(message c draw m (nd m.dst)).2):=by
 have hm:m∈m :: r++o:=by simp
 have hk:=h.rk m (by simp)
 have hid:=hI.ids m.dst
 refine ⟨fun x hx=>h.rk x (by simp [hx]),fun x hx=>?_,fun L hL hr hA=>?_⟩
 ·rcases List.mem_append.1 hx with y | y
  ·exact h.ok x y
  ·have ho:=out_message y
   rcases ho.kinds with a | a | a | a | a
   ·omega
   ·omega
   ·omega
   ·rcases hk with k | k
    ·exact .inl ⟨a.2.1,by rw [ho.src,hid];exact k.2⟩
    ·omega
   ·exact .inr a.1
 ·have hr0:(nd L).role=2∨(nd L).role=3:=by
   by_cases hLd:L=m.dst
   ·subst hLd
    rw [setN_at] at hr
    rcases message_roles (c:=c) (draw:=draw) (m:=m) (s:=nd m.dst) with y | y | y | y <;> omega
   ·rw [setN_ne _ _ hLd] at hr;exact hr
  have hLt:(nd L).term≤(nd0 L).term+1:=by
   obtain ⟨_,a,b⟩:=hbg L hL
   rcases hr0 with y | y
   ·rw [a y];omega
   ·rw [b y];exact Nat.le_refl _
  have key:Above c nd ((nd0 L).term+1)→(∃ x∈r,x.kind=2∧x.rej=true∧x.dst=L∧(nd0 L).term+1<x.term)∨(∃ x∈o++(message c draw m (nd m.dst)).2,x.kind=3∧x.dst=L∧(nd0 L).term+1<x.term):=fun hA0=>by
   rcases h.v L hL hr0 hA0 with ⟨x,hx,k1,k2,k3,k4⟩ | ⟨x,hx,k⟩
   ·rcases List.mem_cons.1 hx with rfl | hx
    ·exfalso
     subst k3
     rw [setN_at] at hr
     have:=(message_rej2 (c:=c) (draw:=draw) (s:=nd x.dst) k1 k2 (by omega)).1
     omega
    ·exact .inl ⟨x,hx,k1,k2,k3,k4⟩
   ·exact Or.inr ⟨x,List.mem_append_left _ hx,k⟩
  obtain ⟨p,hp,ht⟩:=hA
  by_cases hpd:p=m.dst
  ·subst hpd
   rw [setN_at] at ht
   rcases rise hI hm ht with y | ⟨y1,y2,y3,y4⟩
   ·exact key y
   ·
    right
    have hne:L≠m.dst:=fun e=>by
     subst e
     have:=(hbg _ hL).2.1 y1
     omega
    have hms:=message_stands (draw:=draw) h2 y2 y4 y3
    refine ⟨_,List.mem_append_right _ (by rw [hms];exact List.mem_map.2 ⟨L,mem_others.2 ⟨hL.1,by rw [hid];exact hne⟩,rfl⟩),rfl,rfl,?_⟩
    show (nd0 L).term+1<(nd m.dst).term+1
    omega
  ·rw [setN_ne _ _ hpd] at ht
   exact key ⟨p,hp,ht⟩
theorem V3.step (h:V3 c nd0 nd (m :: r) o) (hI:Inv c.n nd (m :: r++o) g) (hs:Soft c (nd m.dst)) (hbg:∀ p,bg c nd0 p→(nd p).role≠4∧((nd p).role=2→(nd p).term=(nd0 p).term)∧((nd p).role=3→(nd p).term=(nd0 p).term+1)):V3 c nd0 (setN nd m.dst (message c draw m (nd m.dst)).1) r (o++(message c draw m (nd m.dst)).2):=by
 have hm:m∈m :: r++o:=by simp
 have hk:=h.rk m (by simp)
 refine ⟨fun x hx=>h.rk x (by simp [hx]),fun x hx=>?_,fun L hL hr hA=>?_⟩
 ·rcases List.mem_append.1 hx with y | y
  ·exact h.ok x y
  ·have ho:=out_message y
   rcases ho.kinds with a | a | a | a | a
   ·omega
   ·rcases hk with k | k
    ·exact .inl ⟨a.2.1,by rw [a.2.2];exact k.2⟩
    ·omega
   ·exact .inr a.2.1
   ·omega
   ·omega
 ·have hr0:(nd L).role=2∨(nd L).role=3:=by
   by_cases hLd:L=m.dst
   ·subst hLd
    rw [setN_at] at hr
    rcases message_roles (c:=c) (draw:=draw) (m:=m) (s:=nd m.dst) with y | y | y | y <;> omega
   ·rw [setN_ne _ _ hLd] at hr;exact hr
  have hLt:(nd L).term≤(nd0 L).term+1:=by
   obtain ⟨_,a,b⟩:=hbg L hL
   rcases hr0 with y | y
   ·rw [a y];omega
   ·rw [b y];exact Nat.le_refl _
  have hA0:Above c nd ((nd0 L).term+1):=by
   obtain ⟨p,hp,ht⟩:=hA
   by_cases hpd:p=m.dst
   ·subst hpd
    rw [setN_at] at ht
    rcases rise hI hm ht with y | y
    ·exact y
    ·omega
   ·rw [setN_ne _ _ hpd] at ht;exact ⟨p,hp,ht⟩
  obtain ⟨x,hx,k1,k2,k3⟩:=h.v L hL hr0 hA0
  rcases List.mem_cons.1 hx with rfl | hx
  ·exfalso
   subst k2
   rw [setN_at] at hr
   have:=(message_vote_high (c:=c) (draw:=draw) (s:=nd x.dst) k1 (by omega) (led_no hs hr0)).1
   omega
  ·exact ⟨x,hx,k1,k2,k3⟩
theorem leader_stays (h4:s.role=4) (ht:m.term≤s.term) (hk:4≤m.kind) (h5:¬ (m.kind=5∧m.term=s.term)):(message c draw m s).1.role=4∧(message c draw m s).1.term=s.term:=by
 unfold message
 rw [if_neg (by omega),if_neg (by omega)]
 split
 ·exact ⟨h4,rfl⟩
 ·unfold kinds
  split
  ·rename_i k;omega
  ·rename_i k;omega
  ·rename_i k;omega
  ·unfold voteReply;rw [if_pos (by omega)];exact ⟨h4,rfl⟩
  ·exact absurd ⟨by assumption,by omega⟩ h5
  ·unfold appendReply
   split
   ·exact ⟨h4,rfl⟩
   ·simp only
    split
    ·split <;> exact ⟨h4,rfl⟩
    ·split
     ·split
      ·exact ⟨h4,rfl⟩
      ·split <;> exact ⟨h4,rfl⟩
     ·exact ⟨h4,rfl⟩
  ·exact ⟨h4,rfl⟩
structure V4 (c:Cfg) (d:Nat→Int) (f:Nat) (nd0:Nat→Nd) (g0 g:Gh) (nd:Nat→Nd) (net:List Msg):Prop where
 k:∀ m∈net,(m.kind=4∧bg c nd0 m.dst)∨m.kind=5∨m.kind=6
 alt:(Com c d f nd0 g0 g nd net∧∀ L,bg c nd0 L→(nd L).role=2∨(nd L).role=3→¬ Above c nd ((nd0 L).term+1))∨(∃ L T,(1≤L∧L≤c.n)∧((nd L).role=4∧(nd L).term=T)∧¬ Above c nd T∧LDn c L T ⟨nd,net⟩)
theorem V4.step {net0:List Msg} (h:V4 c d f nd0 g0 g nd (m :: r)) (hI0:Inv c.n nd0 net0 g0) (hb0:∀ p,upTo (nd0 f).log (nd0 p).log) (hl0:∀ p,(nd0 p).role=4→(nd0 p).tm (nd0 p).fin=(nd0 p).term)
  (hO:Ok c K ⟨nd,m :: r⟩ g) (hO':Ok c K ⟨setN nd m.dst (message c (d m.dst) m (nd m.dst)).1,r++(message c (d m.dst) m (nd m.dst)).2⟩ g') (hE:Ext nd (setN nd m.dst (message c (d m.dst) m (nd m.dst)).1) g g') :
  V4 c d f nd0 g0 g' (setN nd m.dst (message c (d m.dst) m (nd m.dst)).1) (r++(message c (d m.dst) m (nd m.dst)).2):=by
 have hm:m∈m :: r:=by simp
 have hk:=h.k m hm
 have hM:=(hO.inv.msgs m hm).1
 have habove:∀ T,Above c (setN nd m.dst (message c (d m.dst) m (nd m.dst)).1) T→Above c nd T:=fun T ⟨p,hp,ht⟩=>by
  by_cases hpd:p=m.dst
  ·subst hpd
   rw [setN_at] at ht
   rcases rise hO.inv hm ht with y | y
   ·exact y
   ·omega
  ·rw [setN_ne _ _ hpd] at ht;exact ⟨p,hp,ht⟩
 have hOK:(⟨nd,m :: r⟩:Wd).OK c g:=⟨hO.inv,fun i=>(hO.soft i).role⟩
 have hld:∀ L T,LDn c L T ⟨nd,m :: r⟩→LDn c L T ⟨setN nd m.dst (message c (d m.dst) m (nd m.dst)).1,r++(message c (d m.dst) m (nd m.dst)).2⟩:=fun L T hh=>LDn.arr (d:=d) hh hOK ⟨g',hO'.inv⟩ hE.tm (by simp)
 refine ⟨fun x hx=>?_,?_⟩
 ·rcases List.mem_append.1 hx with y | y
  ·exact h.k x (by simp [y])
  ·have ho:=out_message y
   rcases ho.kinds with a | a | a | a | a
   ·omega
   ·omega
   ·exact .inr (.inr a.2.1)
   ·omega
   ·exact .inr (.inl a.1)
 ·rcases h.alt with ⟨hC,hv⟩ | ⟨L,T,hL,hLT,hA,hD⟩
  ·by_cases hnew:(message c (d m.dst) m (nd m.dst)).1.role=4∧(nd m.dst).role≠4
   ·
    right
    have hr:=message_roles (c:=c) (draw:=d m.dst) (m:=m) (s:=nd m.dst)
    have h3:(nd m.dst).role=3∧m.kind=4∧(message c (d m.dst) m (nd m.dst)).1.term=(nd m.dst).term:=by
     rcases hr with y | y | y | y
     ·omega
     ·omega
     ·omega
     ·exact ⟨y.1,y.2.1,y.2.2.2⟩
    have hb:bg c nd0 m.dst:=by
     rcases hk with y | y
     ·exact y.2
     ·omega
    have ht:=(hC.bgs _ hb).2.2 h3.1
    refine ⟨m.dst,(nd0 m.dst).term+1,hb.1,⟨by rw [setN_at];exact hnew.1,by rw [setN_at,h3.2.2,ht]⟩,fun hh=>hv _ hb (.inr h3.1) (habove _ hh),hld _ _ fun hh=>absurd hh.1 hnew.2⟩
   ·left
    have hnl:(message c (d m.dst) m (nd m.dst)).1.role=4→(nd m.dst).role=4:=fun hr=>Classical.byContradiction fun hn=>hnew ⟨hr,hn⟩
    refine ⟨hC.step hI0 hb0 hl0 hO.inv hm (hO.soft _) (fun x hx=>?_) hO'.inv hE hnl,fun L hL hr=>?_⟩
    ·rcases List.mem_append.1 hx with y | y
     ·exact .inl (by simp [y])
     ·exact .inr y
    ·refine fun hh=>hv L hL ?_ (habove _ hh)
     by_cases hLd:L=m.dst
     ·subst hLd
      rw [setN_at] at hr
      rcases message_roles (c:=c) (draw:=d m.dst) (m:=m) (s:=nd m.dst) with y | y | y | y <;> omega
     ·rw [setN_ne _ _ hLd] at hr;exact hr
  ·right
   refine ⟨L,T,hL,?_,fun hh=>hA (habove _ hh),hld _ _ hD⟩
   by_cases hLd:L=m.dst
   ·subst hLd
    rw [setN_at]
    have hsrc:m.term≤T:=by
     have:=(hO.inv.msgs m hm).2.2.2 (by omega)
     refine Classical.byContradiction fun hn=>hA ⟨m.src,hM.rng.1,?_⟩
     show T<(nd m.src).term
     have:m.term≤(nd m.src).term:=this
     omega
    have:=leader_stays (c:=c) (draw:=d m.dst) (m:=m) hLT.1 (by omega) (by omega) fun ⟨k5,kt⟩=>(hO.inv.right5 hm k5).1 ⟨kt,hLT.1⟩
    exact ⟨this.1,by rw [this.2];exact hLT.2⟩
   ·rw [setN_ne _ _ hLd];exact hLT
end
end Go.Proofs.YtocogcgnahbpkaaGreat.Rf
