import Derived.Test.YtocogcgnahbpkaaGreatC12
import Derived.Test.YtocogcgnahbpkaaGreatC32
import Derived.Test.YtocogcgnahbpkaaGreatC33
namespace Go.Proofs.YtocogcgnahbpkaaGreat
open Go.RowKit
def IdleAt (w:World) (F:Nat→Prop) (b:Nat) (cf:Rf.Cfg) (p:Rf.Nd):Prop:=∃ s c,NdAt w F (fun _=>False) b s c∧Rel cf s.draw s c p∧c.msgs=[]∧c.mA=none∧c.mn=0∧c.mc=0
structure MsgsS (w:World) (S:Nat→Prop) (A:Option Addr) (ms:List (MR×List (LE×List Int))):Prop where
 row:RowS encM 10 w S A (ms.map (·.1))
 each:∀ m∈ms,EntsS w S m.1.eA m.2∧m.1.en=m.2.length∧m.1.en≤m.1.ec
structure Rdy (w:World) (S:Nat→Prop) (p p':Rf.Nd) (ms:List Rf.Msg) (k:Nat) (wr:Bool) (eA:Option Addr) (en ec:Nat) (mA:Option Addr) (mn mc:Nat):Prop where
 ents:∃ qs,EntsS w S eA qs∧en=qs.length∧en≤ec∧qs.map con=numb k (p'.log.drop k)
 msgs:∃ mqs,MsgsS w S mA mqs∧mn=mqs.length∧mn≤mc∧mqs.map pmOf=ms.map pmR
 le:k≤p.log.length∧k≤p'.log.length
 tk:p'.log.take k=p.log.take k
 same:wr=false→p'.term=p.term∧p'.vote=p.vote∧p'.log=p.log
section
variable {w w':World} {F G S S':Nat→Prop} {b:Nat} {cf:Rf.Cfg} {draw:Int} {p p':Rf.Nd} {ms:List Rf.Msg}
theorem Own.rowF {α:Type} {enc:α→List Value} {sz:Nat} {e:TypeId} {base n c:Nat} {A:Option Addr} {xs:List α} (hs:∀ x,(enc x).length=sz) (h:Own enc sz e w base (.slice A n c) xs) (hF:∀ k,(Value.slice A n c).ownBlock=some k→S k):RowS enc sz w S A xs:=by
 rcases h.2 with ⟨_,h0⟩ | ⟨g,cap,cur,hv,hb,hg,h1,h2,h3,h4⟩
 ·exact .inl (List.eq_nil_of_length_eq_zero h0)
 ·have hr:=Own.row (A:=A) (c:=c) hs (by have:=(Own.cap h).1;subst this;exact h)
  injection hv with hA _ _
  subst hA
  rcases hr with hr | ⟨b,o,e,hb,hc⟩
  ·exact .inl hr
  ·refine .inr ⟨b,o,e,hF b ?_,hc⟩
   injection e with e
   injection e with e _ _
   rw [Value.ownBlock,←e]
theorem EntsF.entsS {A:Option Addr} {n c:Nat} {qs:List (LE×List Int)} (h:EntsF w F (.slice A n c) qs):EntsS w F A qs∧n=qs.length∧n≤c:=by
 have hc:=Own.cap h.own
 rw [List.length_map] at hc
 exact ⟨⟨h.own.rowF len_LE h.inF,fun q hq=>⟨(h.each q hq).1.rowF len_B (h.each q hq).2.1,(Own.cap (h.each q hq).1).1,(h.each q hq).2.2⟩⟩,hc⟩
theorem MsgsF.msgsS {A:Option Addr} {n c:Nat} {ms:List (MR×List (LE×List Int))} (h:MsgsF w F (.slice A n c) ms):MsgsS w F A ms∧n=ms.length∧n≤c:=by
 have hc:=Own.cap h.own
 rw [List.length_map] at hc
 exact ⟨⟨h.own.rowF len_M h.inF,fun m hm=>(h.each m hm).entsS⟩,hc⟩
theorem MsgsS.mono {A:Option Addr} {ms:List (MR×List (LE×List Int))} (h:MsgsS w S A ms) (hs:∀ i,S i→S' i):MsgsS w S' A ms :=
 ⟨h.row.mono hs,fun m hm=>⟨(h.each m hm).1.mono hs,(h.each m hm).2⟩⟩
theorem MsgsS.keep {A:Option Addr} {ms:List (MR×List (LE×List Int))} (h:MsgsS w S A ms) (hk:∀ i,S i→w'.heap[i]?=w.heap[i]?):MsgsS w' S A ms :=
 ⟨h.row.keep hk,fun m hm=>⟨(h.each m hm).1.keep hk,(h.each m hm).2⟩⟩
theorem IdleAt.keep (h:IdleAt w F b cf p) (hsz:w.heap.size≤w'.heap.size) (hk:∀ i,F i→i<w.heap.size→w'.heap[i]?=w.heap[i]?):IdleAt w' F b cf p:=by
 obtain ⟨s,c,hN,h2⟩:=h
 exact ⟨s,c,hN.keep hsz fun i hi hl=>hi.elim (fun h=>hk i h hl) (fun h=>h.elim),h2⟩
theorem IdleAt.bd (h:IdleAt w F b cf p):(∀ i,F i→i<w.heap.size)∧F b:=by
 obtain ⟨s,c,hN,_⟩:=h;exact ⟨hN.rest.bdF,hN.hb⟩
def Pnode (cf:Rf.Cfg) (draw:Int) (p p':Rf.Nd) (ms:List Rf.Msg) (s':NS) (c':NC):Prop:=Rel cf draw s' c' p'∧c'.msgs.map pmOf=ms.map pmR∧FromOK s'.from_ p.log p'.log
theorem Pnode.ok {s':NS} {c':NC} (h:Pnode cf draw p p' ms s' c') (hf:Fits cf p'):StepOK s' c':=by
 obtain ⟨hR,hM,hF⟩:=h
 have hl:=hR.len
 have hz:=hR.zero
 have hn:=hf.n
 refine ⟨by omega,by rw [hl];exact hf.fin,fun h=>?_,by rw [hR.pl];omega,fun q hq=>?_⟩
 ·rcases hF with ⟨h1,_⟩ | ⟨k,h1,h2,h3,_⟩
  ·omega
  ·omega
 ·rw [hR.peers] at hq
  obtain ⟨k,hk,rfl⟩:=ints_mem hq
  have:=List.mem_range'_1.1 hk
  unfold okI;omega
theorem IdleAt.node {s:NS} {c:NC} {W:World} {F0:Nat→Prop} {z:Nat} (hR:Rel cf s.draw s c p) (hm:c.msgs=[]) (h:NdAt W F0 (fun _=>False) b { s with draw:=draw,from_:=0,first:=0,last:=0 } { c with snR:=some z,sn:=[] }):NodeAt W F0 (fun _=>False) b cf draw p.log p [] :=
 ⟨_,_,h,⟨hR.id,hR.cfg,hR.hard,hR.zero,hR.commit,hR.role,hR.time,rfl,hR.peers,hR.log,hR.lead,hR.gr,hR.rf,rfl⟩,by show c.msgs.map pmOf=_;rw [hm];rfl,.inl ⟨rfl,rfl⟩⟩
theorem After.hand {W w':World} {F0:Nat→Prop} (h:After W w' F0 (fun _=>False) b cf draw p.log p' ms):∃ s' c' F' G',HandG (Pnode cf draw p p' ms) b F0 W w' s' c' F' G':=by
 obtain ⟨F',G',⟨s',c',hN,hR,hM,hF⟩,hg⟩:=h
 exact ⟨s',c',F',G',hN,⟨hR,hM,hF⟩,hg.chg.mono fun i hi=>hi.elim .inl fun h=>h.elim,hg.subF,hg.newF,fun i hi=>(hg.newG i hi).elim (fun h=>h.elim) id⟩
theorem SteppedG.rdy {s':NS} {c':NC} {F' G':Nat→Prop} {eA:Option Addr} {en ec:Nat} {qs:List (LE×List Int)} {sA:Option Addr} {sn sc:Nat} {hd:Bool} (h:SteppedG (Pnode cf draw p p' ms) w w' F b s' c' F' G' eA en ec qs sA sn sc S) (hd1:hd=false→p'.term=p.term∧p'.vote=p.vote) :
  IdleAt w' F' b cf p'∧∃ k,Rdy w' (fun i=>S i∨G' i) p p' ms k (hd||decide (0<s'.from_)) eA en ec c'.mA c'.mn c'.mc∧(if 0<s'.from_ then s'.from_ else s'.snap+c'.ln+1)=(k:Int)+1:=by
 obtain ⟨hR,hM,hF⟩:=h.p
 have hln:c'.ln=c'.log.length:=h.nd.rest.log.ents.2.1
 have hl:=hR.len
 have hz:=hR.zero
 obtain ⟨hms,hmn,hmc⟩:=h.msgs.msgsS
 refine ⟨⟨s',c'.hush,h.nd,⟨hR.id,hR.cfg,hR.hard,hR.zero,hR.commit,hR.role,hR.time,rfl,hR.peers,hR.log,hR.lead,hR.gr,hR.rf,hR.sn⟩,rfl,rfl,rfl,rfl⟩,?_⟩
 have hmm:∃ mqs,MsgsS w' (fun i=>S i∨G' i) c'.mA mqs∧c'.mn=mqs.length∧c'.mn≤c'.mc∧mqs.map pmOf=ms.map pmR:=⟨c'.msgs,hms.mono fun i hi=>.inr hi,hmn,hmc,hM⟩
 rcases hF with ⟨h1,h2⟩ | ⟨k,h1,h2,h3,h4⟩
 ·refine ⟨p'.log.length,⟨⟨qs,h.ents.mono fun i hi=>.inl hi,h.len.1,h.len.2,?_⟩,hmm,by rw [h2];exact ⟨Nat.le_refl _,Nat.le_refl _⟩,by rw [h2],fun he=>?_⟩,?_⟩
  ·rw [h.con,if_neg (by omega),List.drop_length];rfl
  ·rw [Bool.or_eq_false_iff] at he
   exact ⟨(hd1 he.1).1,(hd1 he.1).2,h2⟩
  ·rw [if_neg (by omega)];omega
 ·refine ⟨k,⟨⟨qs,h.ents.mono fun i hi=>.inl hi,h.len.1,h.len.2,?_⟩,hmm,⟨h2,h3⟩,h4,fun he=>?_⟩,?_⟩
  ·rw [h.con,if_pos (by omega),hR.log,numb_drop,Nat.zero_add,show (s'.from_-s'.snap-1).toNat=k by omega]
  ·rw [Bool.or_eq_false_iff,decide_eq_false_iff_not] at he
   omega
  ·rw [if_pos (by omega)];omega
theorem step_ok (h:IdleAt w F b cf p) (hf:Fits cf p') (kind:Nat) (f:Nat) (m0 m1 m2 m3 m4 m5 m6 m7 m8 m9 k12 k13 k14 k15:Value) (hkind:1≤kind∧kind≤7) (hact:actCells[kind]?=some (.func (.func f) #[] #[])) (heg:∀ args w,(callFunc f args).run Tryz.prog w=.ok (.enter f args) w)
  (hh:∀ (W:World) (F0:Nat→Prop),NodeAt W F0 (fun _=>False) b cf draw p.log p []→Chg F w W→(∀ i,F0 i→F i∨w.heap.size≤i) →
   Calls Tryz.prog f #[.pointer (some ⟨b,0,none⟩),.agg #[.int .i64 (kind:Int),.int .i64 draw,m0,m1,m2,m3,m4,m5,m6,m7,m8,m9,k12,k13,k14,k15]] W fun e w'=>e=.returned (.int .i64 0)∧After W w' F0 (fun _=>False) b cf draw p.log p' ms) :
  Calls Tryz.prog 32 #[.pointer (some ⟨b,0,none⟩),.agg #[.int .i64 (kind:Int),.int .i64 draw,m0,m1,m2,m3,m4,m5,m6,m7,m8,m9,k12,k13,k14,k15]] w fun e w'=>∃ (F' S:Nat→Prop) (k:Nat) (wr:Bool) (eA:Option Addr) (en ec:Nat) (mA:Option Addr) (mn mc:Nat) (sA:Option Addr) (sn sc:Nat) (fi la:Int),
   e=.returned (.tuple #[.agg #[.int .i64 p'.term,.int .i64 p'.vote,.bool wr,.int .i64 ((k:Int)+1),.slice eA en ec,.slice mA mn mc,.int .i64 p'.commit,.slice sA sn sc,.int .i64 p'.role,.int .i64 p'.leader,.int .i64 fi,.int .i64 la],.int .i64 0]) ∧
   IdleAt w' F' b cf p'∧Rdy w' S p p' ms k wr eA en ec mA mn mc∧Chg F w w'∧(∀ i,F i→F' i)∧(∀ i,F' i→F i∨w.heap.size≤i)∧(∀ i,S i→w.heap.size≤i∧i<w'.heap.size∧¬ F' i):=by
 obtain ⟨s,c,hN,hR,hm1,hm2,hm3,hm4⟩:=h
 have hhard:∀ s' c',Pnode cf draw p p' ms s' c'→((s'.term=s.term∧s'.vote=s.vote)↔(p'.term=p.term∧p'.vote=p.vote)):=fun s' c' hp=>by
  have h1:=hp.1.hard
  have h2:=hR.hard
  omega
 have hhand:∀ (W:World) (F0:Nat→Prop) (c0:NC),NdAt W F0 (fun _=>False) b { s with draw:=draw,from_:=0,first:=0,last:=0 } c0→(∃ z,c0={ c with snR:=some z,sn:=[] })→Chg F w W→(∀ i,F0 i→F i∨w.heap.size≤i) →
   Calls Tryz.prog f #[.pointer (some ⟨b,0,none⟩),.agg #[.int .i64 (kind:Int),.int .i64 draw,m0,m1,m2,m3,m4,m5,m6,m7,m8,m9,k12,k13,k14,k15]] W fun e w'=>e=.returned (.int .i64 0)∧∃ s' c' F' G',HandG (Pnode cf draw p p' ms) b F0 W w' s' c' F' G':=by
  rintro W F0 c0 h1 ⟨z,rfl⟩ h2 h3
  refine (hh W F0 (IdleAt.node hR hm1 h1) h2 h3).mono ?_
  rintro e w' ⟨rfl,hA⟩
  exact ⟨rfl,hA.hand⟩
 have fin:∀ (hd:Bool) (e:Ending) (w':World),(hd=false→p'.term=p.term∧p'.vote=p.vote)→(∃ s' c' F' G' eA en ec qs sA sn sc S,e=.returned (.tuple #[readyG hd s' c' eA en ec sA sn sc,.int .i64 0])∧SteppedG (Pnode cf draw p p' ms) w w' F b s' c' F' G' eA en ec qs sA sn sc S) →
   ∃ (F' S:Nat→Prop) (k:Nat) (wr:Bool) (eA:Option Addr) (en ec:Nat) (mA:Option Addr) (mn mc:Nat) (sA:Option Addr) (sn sc:Nat) (fi la:Int),e=.returned (.tuple #[.agg #[.int .i64 p'.term,.int .i64 p'.vote,.bool wr,.int .i64 ((k:Int)+1),.slice eA en ec,.slice mA mn mc,.int .i64 p'.commit,.slice sA sn sc,.int .i64 p'.role,.int .i64 p'.leader,.int .i64 fi,.int .i64 la],.int .i64 0]) ∧
   IdleAt w' F' b cf p'∧Rdy w' S p p' ms k wr eA en ec mA mn mc∧Chg F w w'∧(∀ i,F i→F' i)∧(∀ i,F' i→F i∨w.heap.size≤i)∧(∀ i,S i→w.heap.size≤i∧i<w'.heap.size∧¬ F' i):=by
  rintro hd e w' hd1 ⟨s',c',F',G',eA,en,ec,qs,sA,sn,sc,S,rfl,hS⟩
  obtain ⟨hI,k,hr,hk⟩:=hS.rdy hd1
  have hR':=hS.p.1
  refine ⟨F',_,k,_,eA,en,ec,c'.mA,c'.mn,c'.mc,sA,sn,sc,s'.first,s'.last,?_,hI,hr,hS.chg,hS.sub,hS.sub',hS.fresh⟩
  unfold readyG
  rw [hk,hR'.hard.1,hR'.hard.2,hR'.commit,hR'.role.1,hR'.role.2]
 by_cases hc:p'.term=p.term∧p'.vote=p.vote
 ·refine (StepG_any false b s c kind draw f m0 m1 m2 m3 m4 m5 m6 m7 m8 m9 k12 k13 k14 k15 F (Pnode cf draw p p' ms) w hN hkind hact heg ⟨hm1,hm2,hm3,hm4⟩ (fun s' c' hp=>⟨hp.ok hf,⟨fun h=>absurd h (by decide),fun h=>absurd ((hhard s' c' hp).2 hc) h⟩⟩) hhand).mono fun e w' he=>fin false e w' (fun _=>hc) he
 ·refine (StepG_any true b s c kind draw f m0 m1 m2 m3 m4 m5 m6 m7 m8 m9 k12 k13 k14 k15 F (Pnode cf draw p p' ms) w hN hkind hact heg ⟨hm1,hm2,hm3,hm4⟩ (fun s' c' hp=>⟨hp.ok hf,⟨fun _ hx=>hc ((hhard s' c' hp).1 hx),fun _=>rfl⟩⟩) hhand).mono fun e w' he=>fin true e w' (fun hx=>absurd hx (by decide)) he
end
end Go.Proofs.YtocogcgnahbpkaaGreat
