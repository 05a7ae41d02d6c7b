import Derived.Deep.RegionHeld3
import Derived.Lib.SliceRun
import Derived.Test.YtocogcgnahbpkaaGreatC12
import Derived.Test.YtocogcgnahbpkaaGreatC13
namespace Go.Proofs.YtocogcgnahbpkaaGreat
open Go.RowKit
theorem chg1 {a w:World} {b o:Nat} (h:Chg (fun x=>x=b) a w) (u:Value):Chg (fun x=>x=b) a (w.setCell ⟨b,o,none⟩ u):=h.setCell (.inl rfl) u
theorem chgF {F:Nat→Prop} {a w:World} {b o:Nat} (h:Chg F a w) (hb:F b) (u:Value):Chg F a (w.setCell ⟨b,o,none⟩ u):=h.setCell (.inl hb) u
def stuckB (s:NS) (n:Nat):Bool:=decide (s.term=1099511627776∨s.snap+n=1099511627776∨n=65536)
set_option maxRecDepth 100000 in
set_option maxHeartbeats 1000000 in
theorem stuck_any (b:Nat) (s:NS) (c:NC) (w:World) (h:w.heap[b]?=some (.cells (ncells s c) 126 (0,0))) (h0:0≤s.snap) (h1:s.snap≤4611686018427387904) (h2:c.ln≤4611686018427387) :
  Calls Tryz.prog 136 #[.pointer (some ⟨b,0,none⟩)] w fun e w'=>e=.returned (.bool (stuckB s c.ln))∧∃ n,w'=w.drewN n:=by
 have c6:=nc6 h
 have c8:=nc8 h
 by_cases t1:s.term=1099511627776
 ·have b1:(s.term==1099511627776)=true:=by simpa using t1
  have HS:=ld (show stuckB s c.ln=true by simp [stuckB,t1])
  clear t1
  go_enter Tryz.func136,Tryz.ntmps136
  go_wp2
  go_ret
  exact ⟨by rw [HS.out];rfl,0,rfl⟩
 ·have b1:(s.term==1099511627776)=false:=by simpa using t1
  by_cases t2:s.snap+c.ln=1099511627776
  ·have b2:(s.snap+(c.ln:Int)==1099511627776)=true:=by simpa using t2
   have HS:=ld (show stuckB s c.ln=true by simp [stuckB,t2])
   clear t1 t2
   go_enter Tryz.func136,Tryz.ntmps136
   go_wp2_with (go_at_call 57;refine (end_any b s c _ h (by omega) h1 h2).mono ?_;rintro e w' ⟨rfl,nq,rfl⟩)
   go_ret
   exact ⟨by rw [HS.out];rfl,_,rfl⟩
  ·have b2:(s.snap+(c.ln:Int)==1099511627776)=false:=by simpa using t2
   have HS:=ld (show stuckB s c.ln=decide (c.ln=65536) by simp [stuckB,t1,t2])
   clear t1 t2
   go_enter Tryz.func136,Tryz.ntmps136
   go_wp2_with (go_at_call 57;refine (end_any b s c _ h (by omega) h1 h2).mono ?_;rintro e w' ⟨rfl,nq,rfl⟩)
   go_ret
   exact ⟨by rw [HS.out];exact ret_bool (by rw [Bool.eq_iff_iff,beq_iff_eq,decide_eq_true_eq];omega),_,rfl⟩
def NS.follow (s:NS) (t l:Int):NS:=NS.rest { s with role:=1,term:=if s.term<t then t else s.term,vote:=if s.term<t then 0 else s.vote,leader:=l,heir:=0 }
set_option maxRecDepth 100000 in
set_option maxHeartbeats 1000000 in
theorem follow_any (b:Nat) (s:NS) (c:NC) (t l:Int) (w:World) (h:w.heap[b]?=some (.cells (ncells s c) 126 (0,0))) (h0:0≤s.least) (h1:s.least≤s.most) (h2:s.most≤1000) :
  Calls Tryz.prog 97 #[.pointer (some ⟨b,0,none⟩),.int .i64 t,.int .i64 l] w fun e w'=>e=.returned (.tuple #[])∧Chg (·=b) w w'∧w'.heap[b]?=some (.cells (ncells (s.follow t l) c) 126 (0,0)):=by
 have c6:=nc6 h
 have c7:=nc7 h
 have c12:=nc12 h
 have c13:=nc13 h
 have c20:=nc20 h
 have hf:=frozen_block h
 by_cases ht:s.term<t
 ·have HF:=ld (show s.follow t l=NS.rest { s with role:=1,term:=t,vote:=0,leader:=l,heir:=0 } by simp [NS.follow,ht])
  have hb:=block_setCell (o:=20) (block_setCell (o:=13) (block_setCell (o:=7) (block_setCell (o:=6) (block_setCell (o:=12) h (.int .i64 1)) (.int .i64 t)) (.int .i64 0)) (.int .i64 l)) (.int .i64 0)
  have HB:=ld hb
  clear hb
  go_enter Tryz.func97,Tryz.ntmps97
  go_wp2_with (go_at_call 66;refine (rest_any b { s with role:=1,term:=t,vote:=0,leader:=l,heir:=0 } c _ HB.out h0 h1 h2).mono ?_;rintro e w' ⟨rfl,hc,hb'⟩;have HB':=ld hb';clear hb')
  go_end0
  refine ⟨rfl,?_,by rw [HF.out];exact HB'.out⟩
  refine Chg.trans (F:=(·=b)) ?_ hc
  repeat (first | exact Chg.refl | refine chg1 ?_ _)
 ·have HF:=ld (show s.follow t l=NS.rest { s with role:=1,leader:=l,heir:=0 } by simp [NS.follow,ht])
  have hb:=block_setCell (o:=20) (block_setCell (o:=13) (block_setCell (o:=12) h (.int .i64 1)) (.int .i64 l)) (.int .i64 0)
  have HB:=ld hb
  clear hb
  go_enter Tryz.func97,Tryz.ntmps97
  go_wp2_with (go_at_call 66;refine (rest_any b { s with role:=1,leader:=l,heir:=0 } c _ HB.out h0 h1 h2).mono ?_;rintro e w' ⟨rfl,hc,hb'⟩;have HB':=ld hb';clear hb')
  go_end0
  refine ⟨rfl,?_,by rw [HF.out];exact HB'.out⟩
  refine Chg.trans (F:=(·=b)) ?_ hc
  repeat (first | exact Chg.refl | refine chg1 ?_ _)
def ixf (xs:List Int) (x:Int):Int:=if x∈xs then (xs.findIdx (·=x):Nat) else -1
theorem ints_at {w:World} {B k:Nat} {A:Option Addr} {xs:List Int} {x:Int} (h:Row encI 1 w B A xs) (hk:xs[k]?=some x):∃ b o,A=some ⟨b,o,none⟩∧b<B∧w.cell? ⟨b,o+k,none⟩=some (.int .i64 x):=by
 obtain ⟨b,o,hA,hb,hc⟩:=h.at_ hk
 exact ⟨b,o,hA,hb,by simpa using hc 0 _ rfl⟩
theorem ixf_hit {xs:List Int} {x:Int} {k:Nat} (hk:xs[k]?=some x) (hp:∀ j,j<k→xs[j]?≠some x):ixf xs x=k:=by
 have hm:x∈xs:=List.mem_of_getElem? hk
 unfold ixf
 rw [if_pos hm]
 congr 1
 have hkl:=(List.getElem?_eq_some_iff.1 hk)
 obtain ⟨hl,he⟩:=hkl
 rw [List.findIdx_eq hl]
 refine ⟨by simp [he],fun j hj=>?_⟩
 have:=hp j hj
 rw [List.getElem?_eq_getElem (by omega)] at this
 simpa using this
theorem ixf_miss {xs:List Int} {x:Int} (hp:∀ j,j<xs.length→xs[j]?≠some x):ixf xs x=-1:=by
 unfold ixf
 rw [if_neg]
 intro hm
 obtain ⟨j,hj,e⟩:=List.getElem_of_mem hm
 exact hp j hj (by rw [List.getElem?_eq_getElem hj,e])
set_option maxHeartbeats 1000000 in
theorem index_any (A:Option Addr) (n cp:Nat) (xs:List Int) (x:Int) (w:World) (hr:Row encI 1 w w.heap.size A xs) (hn:n=xs.length) (hl:xs.length≤1000000) :
  Calls Tryz.prog 114 #[.slice A n cp,.int .i64 x] w fun e w'=>e=.returned (.int .i64 (ixf xs x))∧w'=w:=by
 subst hn
 go_enter Tryz.func114,Tryz.ntmps114
 go_wp2
 go_loop [5,8] (fun _ i=>∃ k:Nat,k≤xs.length∧i=.int .i64 k∧∀ j,j<k→xs[j]?≠some x) (fun _ i=>xs.length-(intOf i).toNat)
 case atStart=>exact ⟨0,Nat.zero_le _,rfl,fun j hj=>absurd hj (Nat.not_lt_zero _)⟩
 case round =>
  obtain ⟨k,hk,rfl,hp⟩:=hrel
  have HP:=ld hp
  clear hp
  by_cases hlt:k<xs.length
  ·have hg:=List.getElem?_eq_getElem hlt
   obtain ⟨ba,o,rfl,_,c0⟩:=ints_at hr hg
   have HG:=ld hg
   clear hg
   generalize xs[k]=y at c0 HG
   by_cases hy:x=y
   ·subst hy
    have HX:=ld (ixf_hit HG.out HP.out)
    go_wp2
    go_ret
    exact ⟨by rw [HX.out];rfl,rfl⟩
   ·have hyb:(x==y)=false:=by simpa using hy
    go_wp2
    go_round
    case rel =>
     refine ⟨k+1,by omega,by go_num,fun j hj=>?_⟩
     rcases Nat.lt_or_ge j k with h | h
     ·exact HP.out j h
     ·have:j=k:=by omega
      subst this;rw [HG.out];simpa using fun e:y=x=>hy e.symm
    case measure=>simp [intOf];omega
  ·have hkl:k=xs.length:=by omega
   have HX:=ld (ixf_miss (xs:=xs) (x:=x) (fun j hj=>HP.out j (by omega)))
   clear hkl
   go_wp2
   go_ret
   exact ⟨by rw [HX.out];rfl,rfl⟩
set_option maxRecDepth 100000 in
theorem contains_any (A:Option Addr) (n cp:Nat) (xs:List Int) (x:Int) (w:World) (hr:Row encI 1 w w.heap.size A xs) (hn:n=xs.length) (hl:xs.length≤1000000) :
  Calls Tryz.prog 86 #[.slice A n cp,.int .i64 x] w fun e w'=>e=.returned (.bool (decide (x∈xs)))∧w'=w:=by
 subst hn
 by_cases hx:x∈xs
 ·have h0:0≤ixf xs x:=by unfold ixf;rw [if_pos hx];omega
  go_enter Tryz.func86,Tryz.ntmps86
  go_wp2_with (go_at_call 114;refine (index_any A _ cp xs x _ hr rfl hl).mono ?_;rintro e w' ⟨rfl,rfl⟩)
  go_ret
  exact ⟨by simp [hx],rfl⟩
 ·have h0:ixf xs x<0:=by unfold ixf;rw [if_neg hx];omega
  go_enter Tryz.func86,Tryz.ntmps86
  go_wp2_with (go_at_call 114;refine (index_any A _ cp xs x _ hr rfl hl).mono ?_;rintro e w' ⟨rfl,rfl⟩)
  go_ret
  exact ⟨by simp [hx,h0],rfl⟩
set_option maxHeartbeats 1000000 in
theorem iclone_any (A:Option Addr) (n c:Nat) (xs:List Int) (w:World) (hx:Row encI 1 w w.heap.size A xs) (hl:n=xs.length) (hn:xs.length≤1000000) :
  Calls Tryz.prog 65 #[.slice A n c] w fun e w'=>∃ v,e=.returned v∧Own encI 1 3 w' w.heap.size v xs∧Below w.heap.size w w':=by
 subst hl
 have q:∀ (w:World) (a:Option Addr) (n c n' c':Nat),(binOp .eql 25 (.slice a n c) (.slice none n' c')).run Tryz.prog w=.ok (.bool a.isNone) w:=fun w a n c n' c'=>Lib.run_eql_slice_nil w _ _ a n c n' c' Tryz.underlying25
 rcases A with _ | a
 ·have:xs=[]:=by
   rcases hx with h | ⟨b,o,h,_⟩
   ·exact h
   ·cases h
  subst this
  go_enter Tryz.func65,Tryz.ntmps65
  go_wp2
  go_ret
  exact ⟨_,rfl,Own.nil,Below.refl _ _⟩
 ·have hmade:Own encI 1 3 (w.alloc (.cells #[] 3)) w.heap.size (.slice (some ⟨w.heap.size,0,none⟩) 0 0) []:=World.ownsRow_made w #[] 0 (Nat.le_refl _) (Nat.zero_le _) (by simp)
  have hx':Row encI 1 (w.alloc (.cells #[] 3)) w.heap.size (some a) xs:=hx.alloc (Nat.le_refl _) _
  go_enter Tryz.func65,Tryz.ntmps65
  go_wp2_with (at_builtin;refine wp_app _ encI 1 rfl _ _ 25 rfl w.heap.size 3 8 Tryz.underlying25 info3 (by omega) len_I one_I (.slice (some ⟨w.heap.size,0,none⟩) 0 0) [] rfl hmade w.heap.size (some a) _ _ xs rfl rfl hx' (by simp;omega) (by simp;omega) (by simp) ?_;intro v1 w1 hown1 hg1 hat1 _)
  go_ret
  exact ⟨_,rfl,by simpa using hown1,((Below.refl _ _).alloc (Nat.le_refl _) _).grown hg1 (by simp) (by intro k hk;simp [Value.ownBlock] at hk;omega)⟩
theorem bcell {W w1:World} (hb:Below W.heap.size W w1):(∀ b o,b<W.heap.size→w1.cell? ⟨b,o,none⟩=W.cell? ⟨b,o,none⟩)∧(∀ b o,b<W.heap.size→w1.frozen? ⟨b,o,none⟩=W.frozen? ⟨b,o,none⟩) :=
 ⟨fun b o h=>hb.cell (p:=⟨b,o,none⟩) h,fun b o h=>hb.frozen (p:=⟨b,o,none⟩) h⟩
def prevT (l:List E) (t:Int) (k:Nat):Int:=if k=0 then t else ((l[k-1]?).map (·.term)).getD 0
def LogOK (l:List E) (index term most:Int):Prop:=∀ (k:Nat) (e:E),l[k]?=some e→e.idx=index+1+k∧e.idx≤1099511627776∧1≤e.term∧prevT l term k≤e.term∧e.term≤most
set_option maxRecDepth 100000 in
set_option maxHeartbeats 1000000 in
theorem goes_yes (A:Option Addr) (n c:Nat) (ps:List (LE×List Int)) (index term most:Int) (w:World) (hx:Ents w w.heap.size A ps) (hn:n=ps.length) (hl:ps.length≤100000) (hok:LogOK (ps.map con) index term most)
  (h0:0≤index) (h1:index≤1099511627776) (hm:most≤1099511627776) (ht:0≤term) (ht1:term≤1099511627776) :
  Calls Tryz.prog 87 #[.slice A n c,.int .i64 index,.int .i64 term,.int .i64 most] w fun e w'=>e=.returned (.bool true)∧Below w.heap.size w w':=by
 subst hn
 have HOK:=ld hok
 clear hok
 go_enter Tryz.func87,Tryz.ntmps87
 go_wp2
 go_loopw [1,2,10,13] (fun i t _ j wr=>∃ (k:Nat) (tt:Int),j=.int .i64 k∧k≤ps.length∧i=.int .i64 (index+k)∧t=.int .i64 tt∧Hid (tt=prevT (ps.map con) term k)∧0≤tt∧tt≤1099511627776∧Below w.heap.size w wr) (fun _ _ _ j _=>ps.length-(intOf j).toNat)
 case atStart=>exact ⟨0,term,rfl,by omega,by simp,rfl,ld rfl,ht,ht1,Below.refl _ _⟩
 case round =>
  obtain ⟨k,tt,rfl,hk,rfl,rfl,HT,ht0,ht2,hb⟩:=hrel
  by_cases hlt:k<ps.length
  ·have hpk:=List.getElem?_eq_getElem hlt
   obtain ⟨ba,o,rfl,_,c0,c1,c2⟩:=ents_at (hx.below hb) hpk
   have hok:=HOK.out k _ (by rw [List.getElem?_map,hpk];rfl)
   have HT2:=ld (show prevT (ps.map con) term (k+1)=ps[k].1.term by simp [prevT,hpk,con])
   rw [←HT.out] at hok
   clear hpk
   generalize ps[k]=p at c0 c1 c2 hok HT2
   obtain ⟨g1,g2,g3,g4,g5⟩:=hok
   simp only [con] at g1 g2 g3 g4 g5
   have b1:(p.1.idx != index+k+1)=false:=by rw [bne_eq_false_iff_eq];omega
   have b2:max tt 1≤p.1.term:=by omega
   have b4:index+↑k+1≤1099511627776:=by omega
   have b5:p.1.term≤1099511627776:=by omega
   have b6:0≤p.1.term:=by omega
   have G1:=ld g1
   clear g1
   go_wp2
   all_goals first
    | (exfalso;omega)
    | (go_roundw
       case rel=>exact ⟨k+1,p.1.term,by go_num,by omega,by go_num,rfl,ld HT2.out.symm,b6,b5,hb.alloc hb.size _⟩
       case measure=>simp [intOf];omega)
  ·go_wp2
   go_ret
   exact ⟨rfl,hb⟩
structure CfgOK (id:Int) (peers:List Int) (least most beatc batch:Int):Prop where
 len:peers.length≤7
 rng:∀ p∈peers,1≤p∧p≤7
 rise:peers.Pairwise (·<·)
 mem:id∈peers
 beat1:1≤beatc
 beat2:beatc<least
 most1:least≤most
 most2:most≤1000
 batch1:1≤batch
 batch2:batch≤16
set_option maxRecDepth 100000 in
set_option maxHeartbeats 1000000 in
theorem configured_yes (id:Int) (A:Option Addr) (n c:Nat) (peers:List Int) (least most beatc batch:Int) (w:World) (hx:Row encI 1 w w.heap.size A peers) (hn:n=peers.length) (hok:CfgOK id peers least most beatc batch) :
  Calls Tryz.prog 63 #[.agg #[.int .i64 id,.slice A n c,.int .i64 least,.int .i64 most,.int .i64 beatc,.int .i64 batch]] w fun e w'=>e=.returned (.bool true)∧Below w.heap.size w w':=by
 subst hn
 have HOK:=ld hok
 obtain ⟨k1,_,_,_,k5,k6,k7,k8,k9,k10⟩:=hok
 have hm:decide (id∈peers)=true:=by simpa using HOK.out.mem
 have hx1:∀ o:Obj,Row encI 1 (w.alloc o) w.heap.size A peers:=fun o=>hx.alloc (Nat.le_refl _) o
 have hbw:∀ o:Obj,Below w.heap.size w (w.alloc o):=fun o=>(Below.refl _ _).alloc (Nat.le_refl _) o
 go_enter Tryz.func63,Tryz.ntmps63
 go_wp2
 go_loop [3,4,9] (fun _ _ i=>∃ k:Nat,k≤peers.length∧i=.int .i64 k) (fun _ _ i=>peers.length-(intOf i).toNat)
 case atStart=>exact ⟨0,Nat.zero_le _,rfl⟩
 case round =>
  obtain ⟨k,hk,rfl⟩:=hrel
  by_cases hlt:k<peers.length
  ·have hg:=List.getElem?_eq_getElem hlt
   obtain ⟨ba,o,rfl,hba,c0⟩:=ints_at (hx1 (.cells #[.int .i64 id,.slice A peers.length c,.int .i64 least,.int .i64 most,.int .i64 beatc,.int .i64 batch] 27)) hg
   have hy:=HOK.out.rng _ (List.getElem_mem hlt)
   have hyb:decide (1≤peers[k]∧peers[k]≤7)=true:=by simpa using hy
   rcases Nat.eq_zero_or_pos k with hz | hz
   ·subst hz
    clear hg
    generalize peers[0]=y at c0 hy hyb
    simp only [Nat.add_zero] at c0
    go_wp2_with (go_at_call 55;refine (within_any _ _ _ _).mono ?_;rintro e w' ⟨rfl,rfl⟩)
    go_round
    case rel=>exact ⟨1,by omega,rfl⟩
    case measure=>simp [intOf];omega
   ·have hg2:=List.getElem?_eq_getElem (show k-1<peers.length by omega)
    have hr:=(List.pairwise_iff_getElem.1 HOK.out.rise) (k-1) k (by omega) hlt (by omega)
    obtain ⟨ba',o',e',_,c3⟩:=ints_at (hx1 (.cells #[.int .i64 id,.slice (some ⟨ba,o,none⟩) peers.length c,.int .i64 least,.int .i64 most,.int .i64 beatc,.int .i64 batch] 27)) hg2
    injection e' with e'
    injection e' with e1 e2
    subst e1 e2
    clear hg hg2
    generalize peers[k]=y at c0 hy hyb hr
    generalize peers[k-1]=z at c3 hr
    have hz':(0:Int)≤(k:Int)-1:=by omega
    have hz2:((k:Int)-1).toNat=k-1:=by omega
    go_wp2_with (go_at_call 55;refine (within_any _ _ _ _).mono ?_;rintro e w' ⟨rfl,rfl⟩)
    go_round
    case rel=>exact ⟨k+1,by omega,by go_num⟩
    case measure=>simp [intOf];omega
  ·have hb1:decide (1≤batch∧batch≤16)=true:=by simp;omega
   go_wp2_with (first
    | (go_at_call 55;refine (within_any _ _ _ _).mono ?_;rintro e w' ⟨rfl,rfl⟩)
    | (go_at_call 86;refine (contains_any A _ c peers id _ ((hx1 _).more (by simp)) rfl (by omega)).mono ?_;rintro e w' ⟨rfl,rfl⟩))
   go_ret
   exact ⟨rfl,hbw _⟩
structure StOK (peers:List Int) (term vote snap snapTerm commit:Int) (log:List E):Prop where
 term0:0≤term
 term1:term≤1099511627776
 vote:vote=0∨(term≠0∧vote∈peers)
 snap0:0≤snap
 snap1:snap≤1099511627776
 snapT:snapTerm=0↔snap=0
 snapT0:0≤snapTerm
 snapT1:snapTerm≤term
 len:log.length≤65536
 ok:LogOK log snap snapTerm term
 commit0:snap≤commit
 commit1:commit≤snap+log.length
set_option maxRecDepth 100000 in
set_option maxHeartbeats 2000000 in
theorem stated_yes (cid:Int) (pA:Option Addr) (pn pc:Nat) (peers:List Int) (least most beatc batch:Int) (term vote snap snapTerm commit:Int) (lA:Option Addr) (ln lc:Nat) (ps:List (LE×List Int)) (w:World)
  (hp:Row encI 1 w w.heap.size pA peers) (hpn:pn=peers.length) (hp7:peers.length≤7) (hx:Ents w w.heap.size lA ps) (hn:ln=ps.length) (hok:StOK peers term vote snap snapTerm commit (ps.map con)) :
  Calls Tryz.prog 64 #[.agg #[.int .i64 cid,.slice pA pn pc,.int .i64 least,.int .i64 most,.int .i64 beatc,.int .i64 batch],.agg #[.int .i64 term,.int .i64 vote,.int .i64 snap,.int .i64 snapTerm,.int .i64 commit,.slice lA ln lc]] w
   fun e w'=>e=.returned (.bool true)∧Below w.heap.size w w':=by
 subst hpn hn
 have HOK:=ld hok
 obtain ⟨k1,k2,kv,k4,k5,k6,k7,k8,k9,_,k11,k12⟩:=hok
 simp only [List.length_map] at k9 k12
 have HST:=ld k6
 clear k6
 have b1:decide (0≤term∧term≤1099511627776)=true:=by simp;omega
 have b2:decide (0≤snap∧snap≤1099511627776)=true:=by simp;omega
 have b3:decide (0≤snapTerm∧snapTerm≤term)=true:=by simp;omega
 have b4:decide (snap≤commit∧commit≤snap+ps.length)=true:=by simp;omega
 have b5:(snapTerm==0)=(snap==0):=by
  have:=HST.out
  rw [Bool.eq_iff_iff,beq_iff_eq,beq_iff_eq];exact this
 have k9':(ps.length:Int)≤65536:=by omega
 have hal:∀ o1 o2 o3:Obj,Below w.heap.size w (((w.alloc o1).alloc o2).alloc o3):=fun o1 o2 o3=>(((Below.refl _ _).alloc (Nat.le_refl _) _).alloc (by simp) _).alloc (by simp;omega) _
 have hx3:∀ o1 o2 o3:Obj,Ents (((w.alloc o1).alloc o2).alloc o3) (w.heap.size+1+1+1) lA ps:=fun o1 o2 o3=>(hx.below (hal _ _ _)).more (by omega)
 have hp3:∀ o1 o2 o3:Obj,Row encI 1 (((w.alloc o1).alloc o2).alloc o3) (w.heap.size+1+1+1) pA peers:=fun o1 o2 o3=>(hp.below (hal _ _ _)).more (by omega)
 by_cases hv:vote=0
 ·subst hv
  clear kv
  go_enter Tryz.func64,Tryz.ntmps64
  go_wp2_with (first
   | (go_at_call 55;refine (within_any _ _ _ _).mono ?_;rintro e w' ⟨rfl,rfl⟩)
   | (go_at_call 87;refine (goes_yes lA _ lc ps snap snapTerm term _ (by simpa using hx3 _ _ _) rfl (by omega) HOK.out.ok k4 k5 k2 k7 (by omega)).mono ?_;rintro e w' ⟨rfl,hb⟩;obtain ⟨hc,hf⟩:=bcell hb))
  go_ret
  exact ⟨rfl,(hal _ _ _).trans (hb.mono (by simp;omega))⟩
 ·have b6:(vote != 0)=true:=by
   rw [bne_iff_ne];exact hv
  obtain ⟨kt,kv⟩:=kv.resolve_left hv
  have b7:(term==0)=false:=by simpa using kt
  have b8:decide (vote∈peers)=true:=by simpa using kv
  clear kv kt hv
  go_enter Tryz.func64,Tryz.ntmps64
  go_wp2_with (first
   | (go_at_call 55;refine (within_any _ _ _ _).mono ?_;rintro e w' ⟨rfl,rfl⟩)
   | (go_at_call 86;refine (contains_any pA _ pc peers vote _ (by simpa using hp3 _ _ _) rfl (by omega)).mono ?_;rintro e w' ⟨rfl,rfl⟩)
   | (go_at_call 87;refine (goes_yes lA _ lc ps snap snapTerm term _ (by simpa using hx3 _ _ _) rfl (by omega) HOK.out.ok k4 k5 k2 k7 (by omega)).mono ?_;rintro e w' ⟨rfl,hb⟩;obtain ⟨hc,hf⟩:=bcell hb))
  go_ret
  exact ⟨rfl,(hal _ _ _).trans (hb.mono (by simp;omega))⟩
theorem cells6 {w:World} {b:Nat} {a0 a1 a2 a3 a4 a5:Value} {t:TypeId} (h:w.heap[b]?=some (.cells #[a0,a1,a2,a3,a4,a5] t (0,0))) :
  w.cell? ⟨b,0,none⟩=some a0∧w.cell? ⟨b,1,none⟩=some a1∧w.cell? ⟨b,2,none⟩=some a2∧w.cell? ⟨b,3,none⟩=some a3∧w.cell? ⟨b,4,none⟩=some a4∧w.cell? ⟨b,5,none⟩=some a5 :=
 ⟨cell_block h 0 _ rfl,cell_block h 1 _ rfl,cell_block h 2 _ rfl,cell_block h 3 _ rfl,cell_block h 4 _ rfl,cell_block h 5 _ rfl⟩
theorem Ents.drew {w:World} {B:Nat} {A:Option Addr} {ps:List (LE×List Int)} (h:Ents w B A ps):Ents w.drew B A ps:=⟨h.row,h.each⟩
def NC.new (pA:Option Addr) (pn pc:Nat) (peers:List Int) (lA:Option Addr) (ln lc:Nat) (log:List (LE×List Int)):NC :=
 ⟨pA,pn,pc,peers,lA,ln,lc,log,none,[],none,[],none,[],none,[],none,[],none,0,0,[],none,[]⟩
def NS.new (id least most beatc batch term vote snap snapTerm commit draw:Int):NS:=NS.rest ⟨id,least,most,beatc,batch,term,vote,snap,snapTerm,commit,1,0,0,0,0,0,draw,0,0,0⟩
set_option maxRecDepth 100000 in
set_option maxHeartbeats 2000000 in
theorem new_yes (id:Int) (pA:Option Addr) (pn pc:Nat) (peers:List Int) (least most beatc batch:Int) (term vote snap snapTerm commit:Int) (lA:Option Addr) (ln lc:Nat) (ps:List (LE×List Int)) (draw:Int) (w:World)
  (hp:Row encI 1 w w.heap.size pA peers) (hpn:pn=peers.length) (hcfg:CfgOK id peers least most beatc batch) (hx:Ents w w.heap.size lA ps) (hn:ln=ps.length) (hok:StOK peers term vote snap snapTerm commit (ps.map con)) :
  Calls Tryz.prog 47 #[.agg #[.int .i64 id,.slice pA pn pc,.int .i64 least,.int .i64 most,.int .i64 beatc,.int .i64 batch],.agg #[.int .i64 term,.int .i64 vote,.int .i64 snap,.int .i64 snapTerm,.int .i64 commit,.slice lA ln lc],.int .i64 draw] w
   fun e w'=>∃ F g c,e=.returned (.tuple #[.pointer (some ⟨g,0,none⟩),.int .i64 0])∧NdAt w' F (fun _=>False) g (NS.new id least most beatc batch term vote snap snapTerm commit draw) c∧Below w.heap.size w w'∧(∀ i,F i→w.heap.size≤i)
    ∧c.peers=peers∧c.log.map con=ps.map con∧c=NC.new c.pA c.pn c.pc c.peers c.lA c.ln c.lc c.log:=by
 subst hpn hn
 have hcfg':=ld hcfg
 have hok':=ld hok
 have hpl:=hcfg.len
 have hpsl:ps.length≤65536:=by have:=hok.len;simpa using this
 clear hcfg hok
 obtain ⟨cc,hcc⟩:∃ cc:Array Value,cc=#[.int .i64 id,.slice pA peers.length pc,.int .i64 least,.int .i64 most,.int .i64 beatc,.int .i64 batch]:=⟨_,rfl⟩
 obtain ⟨sc,hsc⟩:∃ sc:Array Value,sc=#[.int .i64 term,.int .i64 vote,.int .i64 snap,.int .i64 snapTerm,.int .i64 commit,.slice lA ps.length lc]:=⟨_,rfl⟩
 obtain ⟨W0,hW0⟩:∃ W0:World,W0=(w.alloc (.cells cc 27)).alloc (.cells sc 90):=⟨_,rfl⟩
 have hb0:Below w.heap.size w W0:=by rw [hW0];exact ((Below.refl _ _).alloc (Nat.le_refl _) _).alloc (by simp) _
 have B1:W0.heap[w.heap.size]?=some (.cells cc 27 (0,0)):=by rw [hW0];exact block_alloc (World.alloc_at w _) _
 have B2:W0.heap[w.heap.size+1]?=some (.cells sc 90 (0,0)):=by rw [hW0];have:=World.alloc_at (w.alloc (.cells cc 27)) (.cells sc 90);rwa [World.alloc_size] at this
 have hz0:W0.heap.size=w.heap.size+2:=by rw [hW0];simp
 have hx0:Ents W0 W0.heap.size lA ps:=(hx.below hb0).more hb0.size
 have hp0:Row encI 1 W0 W0.heap.size pA peers:=(hp.below hb0).more hb0.size
 have HW0:=ld hW0
 clear hW0
 have HZ0:=ld hz0
 clear hz0
 have HB1:=ld B1
 clear B1
 have HB2:=ld B2
 clear B2
 go_enter Tryz.func47,Tryz.ntmps47
 go_wp2_with (fail)
 rw [←hcc,←hsc,←HW0.out]
 clear HW0
 subst hcc hsc
 refine (configured_yes id pA _ pc peers least most beatc batch _ hp0 rfl hcfg'.out).mono ?_
 rintro e w1 ⟨rfl,hb1⟩
 have D1:=ld ((hb1.block _ (block_lt HB1.out)).trans HB1.out)
 have D2:=ld ((hb1.block _ (block_lt HB2.out)).trans HB2.out)
 have hx1:Ents w1 w1.heap.size lA ps:=(hx0.below hb1).more hb1.size
 have hp1:Row encI 1 w1 w1.heap.size pA peers:=(hp0.below hb1).more hb1.size
 have hbb1:Below w.heap.size w w1:=hb0.trans (hb1.mono hb0.size)
 have HZ1:w.heap.size+2≤w1.heap.size:=by have:=HZ0.out;have:=hb1.size;omega
 clear HB1 HB2 hx0 hp0 hb0 HZ0 hb1
 obtain ⟨a0,a1,a2,a3,a4,a5⟩:=cells6 D1.out
 obtain ⟨e0,e1,e2,e3,e4,e5⟩:=cells6 D2.out
 go_wp2_with (fail)
 refine (stated_yes id pA _ pc peers least most beatc batch term vote snap snapTerm commit lA _ lc ps _ hp1 rfl hpl hx1 rfl hok'.out).mono ?_
 rintro e w2 ⟨rfl,hb2⟩
 have D1':=ld ((hb2.block _ (block_lt D1.out)).trans D1.out)
 have D2':=ld ((hb2.block _ (block_lt D2.out)).trans D2.out)
 have hx2:Ents w2 w2.heap.size lA ps:=(hx1.below hb2).more hb2.size
 have hp2:Row encI 1 w2 w2.heap.size pA peers:=(hp1.below hb2).more hb2.size
 have hbb2:Below w.heap.size w w2:=hbb1.trans (hb2.mono hbb1.size)
 have HZ2:w.heap.size+2≤w2.heap.size:=by have:=hb2.size;omega
 clear D1 D2 hx1 hp1 hbb1 HZ1 hb2 a0 a1 a2 a3 a4 a5 e0 e1 e2 e3 e4 e5
 obtain ⟨a0,a1,a2,a3,a4,a5⟩:=cells6 D1'.out
 obtain ⟨e0,e1,e2,e3,e4,e5⟩:=cells6 D2'.out
 have hf1:=frozen_block D1'.out
 go_wp2_with (fail)
 refine (iclone_any pA _ pc peers _ hp2 rfl (by omega)).mono ?_
 rintro e w3 ⟨v3,rfl,hown3,hb3⟩
 obtain ⟨A3,k3,rfl⟩:=hown3.form
 have F1:=ld ((hb3.block _ (block_lt D1'.out)).trans D1'.out)
 have F2:=ld ((hb3.block _ (block_lt D2'.out)).trans D2'.out)
 have hx3:Ents w3 w3.heap.size lA ps:=(hx2.below hb3).more hb3.size
 have hbb3:Below w.heap.size w w3:=hbb2.trans (hb3.mono hbb2.size)
 have HZ3:w.heap.size+2≤w3.heap.size:=by have:=hb3.size;omega
 clear D1' D2' hx2 hp2 hbb2 hb3 a0 a1 a2 a3 a4 a5 e0 e1 e2 e3 e4 e5 hf1
 obtain ⟨a0,a1,a2,a3,a4,a5⟩:=cells6 F1.out
 obtain ⟨e0,e1,e2,e3,e4,e5⟩:=cells6 F2.out
 have hf1:=frozen_block F1.out
 go_wp2_with (fail)
 have G1:=ld (block_setCell (o:=1) F1.out (.slice A3 peers.length k3))
 have G2:=ld (block_other F2.out ⟨w.heap.size,1,none⟩ (.slice A3 peers.length k3) (by simp))
 have hbb4:Below w.heap.size w (w3.setCell ⟨w.heap.size,1,none⟩ (.slice A3 peers.length k3)):=hbb3.setCell (p:=⟨w.heap.size,1,none⟩) (Nat.le_refl _) _
 have hx4:Ents (w3.setCell ⟨w.heap.size,1,none⟩ (.slice A3 peers.length k3)) (w3.setCell ⟨w.heap.size,1,none⟩ (.slice A3 peers.length k3)).heap.size lA ps:=(hx.below hbb4).more hbb4.size
 have hown4:Own encI 1 3 (w3.setCell ⟨w.heap.size,1,none⟩ (.slice A3 peers.length k3)) w2.heap.size (.slice A3 peers.length k3) peers:=ownsRow_setCell_below hown3 (by show w.heap.size<_;omega) _
 clear F1 F2 a0 a1 a2 a3 a4 a5 e0 e1 e2 e3 e4 e5 hf1 hbb3 hx3 hown3
 generalize w3.setCell ⟨w.heap.size,1,none⟩ (.slice A3 peers.length k3)=w4 at G1 G2 hx4 hbb4 hown4 ⊢
 have HZ4:w.heap.size+2≤w4.heap.size:=by have:=block_lt G2.out;omega
 clear HZ3
 obtain ⟨a0,a1,a2,a3,a4,a5⟩:=cells6 (show w4.heap[w.heap.size]?=some (.cells #[.int .i64 id,.slice A3 peers.length k3,.int .i64 least,.int .i64 most,.int .i64 beatc,.int .i64 batch] 27 (0,0)) from G1.out)
 obtain ⟨e0,e1,e2,e3,e4,e5⟩:=cells6 G2.out
 have m1:w.heap.size<w4.heap.size:=by omega
 have m2:w.heap.size+1<w4.heap.size:=by omega
 go_region_held3 (fun w'=>(w'.cell? ⟨w.heap.size,0,none⟩=some (.int .i64 id)∧w'.cell? ⟨w.heap.size,1,none⟩=some (.slice A3 peers.length k3)∧w'.cell? ⟨w.heap.size,2,none⟩=some (.int .i64 least)∧w'.cell? ⟨w.heap.size,3,none⟩=some (.int .i64 most)∧w'.cell? ⟨w.heap.size,4,none⟩=some (.int .i64 beatc)∧w'.cell? ⟨w.heap.size,5,none⟩=some (.int .i64 batch)) ∧
   (w'.cell? ⟨w.heap.size+1,0,none⟩=some (.int .i64 term)∧w'.cell? ⟨w.heap.size+1,1,none⟩=some (.int .i64 vote)∧w'.cell? ⟨w.heap.size+1,2,none⟩=some (.int .i64 snap)∧w'.cell? ⟨w.heap.size+1,3,none⟩=some (.int .i64 snapTerm)∧w'.cell? ⟨w.heap.size+1,4,none⟩=some (.int .i64 commit)∧w'.cell? ⟨w.heap.size+1,5,none⟩=some (.slice lA ps.length lc)))
  (first | go_keep | (go_split_ands;exact ⟨⟨((bcell hb5).1 _ _ m1).trans a0,((bcell hb5).1 _ _ m1).trans a1,((bcell hb5).1 _ _ m1).trans a2,((bcell hb5).1 _ _ m1).trans a3,((bcell hb5).1 _ _ m1).trans a4,((bcell hb5).1 _ _ m1).trans a5⟩,((bcell hb5).1 _ _ m2).trans e0,((bcell hb5).1 _ _ m2).trans e1,((bcell hb5).1 _ _ m2).trans e2,((bcell hb5).1 _ _ m2).trans e3,((bcell hb5).1 _ _ m2).trans e4,((bcell hb5).1 _ _ m2).trans e5⟩))
  ((go_at_call 58;refine (copied_any lA _ lc ps _ (by first | exact hx4.drew | exact hx4) rfl (by omega)).mono ?_;rintro e w5 ⟨v5,qs5,rfl,hO5,hq5,hb5⟩;obtain ⟨A5,k5,rfl⟩:=hO5.own.form))
 have hql:qs5.length=ps.length:=by simpa using congrArg List.length hq5
 have hz5:=hb5.size
 have hbb5:Below w.heap.size w w5:=hbb4.trans ((show Below w4.heap.size w4 w5 from ⟨hb5.os,hb5.tape,hb5.output,hb5.size,hb5.block⟩).mono hbb4.size)
 have hz5':w4.heap.size≤w5.heap.size:=hz5
 have hO5':OEnts w5 w4.heap.size (.slice A5 (List.map (fun x=>x.fst) qs5).length k5) qs5:=hO5
 have hO6:=hO5'.alloc
 have hown6:∀ o,Own encI 1 3 (w5.alloc o) w2.heap.size (.slice A3 peers.length k3) peers:=fun o=>(hown4.below (show Below w4.heap.size w4 w5 from ⟨hb5.os,hb5.tape,hb5.output,hb5.size,hb5.block⟩) (Nat.le_refl _)).alloc o
 have hbb6:∀ o,Below w.heap.size w (w5.alloc o):=fun o=>hbb5.alloc hbb5.size o
 have hat:∀ o,(w5.alloc o).heap[w5.heap.size]?=some o:=fun o=>World.alloc_at w5 o
 have hsz:∀ o,(w5.alloc o).heap.size=w5.heap.size+1:=fun o=>World.alloc_size w5 o
 have HQ:=ld hq5
 have HQL:=ld hql
 have H4:=ld (show w.heap.size+2≤w4.heap.size∧w.heap.size≤w2.heap.size from ⟨HZ4,by have:=HZ2;omega⟩)
 clear hq5 hql a0 a1 a2 a3 a4 a5 e0 e1 e2 e3 e4 e5 hb5 hO5 hO5' hx4 hown4 hbb4 hbb5 HZ4 G1 G2 m1 m2 hz5
 obtain ⟨s0,hs0⟩:∃ s0:NS,s0=⟨id,least,most,beatc,batch,term,vote,snap,snapTerm,commit,1,0,0,0,0,0,draw,0,0,0⟩:=⟨_,rfl⟩
 obtain ⟨c0,hc0⟩:∃ c0:NC,c0=(NC.new A3 peers.length k3 peers A5 qs5.length k5 qs5):=⟨_,rfl⟩
 obtain ⟨w6,hw6⟩:∃ w6:World,w6=w5.alloc (.cells (ncells s0 c0) 126):=⟨_,rfl⟩
 have B6:=ld (show w6.heap[w5.heap.size]?=some (.cells (ncells s0 c0) 126 (0,0)) by rw [hw6];exact hat _)
 have O6:=hO6 (.cells (ncells s0 c0) 126)
 have P6:=hown6 (.cells (ncells s0 c0) 126)
 have W6:=hbb6 (.cells (ncells s0 c0) 126)
 have Z6:=hsz (.cells (ncells s0 c0) 126)
 rw [←hw6] at O6 P6 W6 Z6
 simp only [List.length_map] at O6
 clear hO6 hown6 hbb6 hat hsz
 have HZ6:=ld Z6
 clear Z6
 subst hs0 hc0
 have g1:=hcfg'.out.beat1
 have g2:=hcfg'.out.beat2
 have g3:0≤least:=by omega
 have g4:=hcfg'.out.most1
 have g5:=hcfg'.out.most2
 simp only [ncells,NC.new] at hw6
 rw [←hw6]
 clear hw6
 go_wp2_with (go_at_call 66;refine (rest_any w5.heap.size _ _ _ B6.out g3 g4 g5).mono ?_;rintro e w7 ⟨rfl,hc7,hb7⟩;have HB7:=ld hb7;clear hb7)
 go_ret2
 have hs7:=hc7.size
 have hk7:∀ i,i<w6.heap.size→i≠w5.heap.size→w7.heap[i]?=w6.heap[i]?:=fun i hi hn=>hc7.keep hi hn
 have hz6:=HZ6.out
 obtain ⟨h41,h42⟩:=H4.out
 refine ⟨fun i=>w.heap.size≤i∧i<w6.heap.size,_,_,rfl,⟨HB7.out,by constructor <;> omega,?_⟩,?_,fun i hi=>hi.1,rfl,HQ.out,rfl⟩
 ·refine NCAt.keepB (w:=w6) ⟨fun i hi=>hi.2,fun i hi=>hi.elim,fun i _ hi=>hi,P6.weaken (Nat.zero_le _),fun k hk=>?_,O6.entsF (F:=fun i=>w.heap.size≤i∧i<w6.heap.size) (fun i hi hl=>⟨by omega,hl⟩),rfl,rfl,rfl,rfl,rfl,rfl,MsgsF.nil,by simp [NC.new]⟩ B6.out hs7 (fun i _ hi hn=>hk7 i hi hn)
  have:=P6.lt k hk
  exact ⟨by omega,this.2⟩
 ·exact W6.trans ⟨hc7.os,hc7.tape,hc7.output,hs7,fun i hi=>hk7 i (by omega) (by omega)⟩
abbrev isId (g:Nat):Value:=.func (.func 81) #[] #[.pointer (some ⟨g,0,none⟩)]
set_option maxRecDepth 100000 in
theorem isId_any (p id:Int) (g b:Nat) (w:World) (h1:w.cell? ⟨g,0,none⟩=some (.pointer (some ⟨b,0,none⟩))) (h2:w.cell? ⟨b,0,none⟩=some (.int .i64 id)) :
  Calls Tryz.prog 81 #[.int .i64 p,.pointer (some ⟨g,0,none⟩)] w fun e w'=>e=.returned (.bool (p==id))∧w'=w:=by
 go_enter Tryz.func81,Tryz.ntmps81
 go_wp2
 go_ret
 exact ⟨rfl,rfl⟩
set_option maxRecDepth 100000 in
set_option maxHeartbeats 1000000 in
theorem indexFunc_any (A:Option Addr) (n cp:Nat) (xs:List Int) (id:Int) (g b:Nat) (w:World) (hr:Row encI 1 w w.heap.size A xs) (hn:n=xs.length) (hl:xs.length≤1000000) (h1:w.cell? ⟨g,0,none⟩=some (.pointer (some ⟨b,0,none⟩))) (h2:w.cell? ⟨b,0,none⟩=some (.int .i64 id)) :
  Calls Tryz.prog 111 #[.slice A n cp,isId g] w fun e w'=>e=.returned (.int .i64 (ixf xs id))∧w'=w:=by
 subst hn
 go_enter Tryz.func111,Tryz.ntmps111
 go_wp2
 go_loop [5,8] (fun _ i=>∃ k:Nat,k≤xs.length∧i=.int .i64 k∧∀ j,j<k→xs[j]?≠some id) (fun _ i=>xs.length-(intOf i).toNat)
 case atStart=>exact ⟨0,Nat.zero_le _,rfl,fun j hj=>absurd hj (Nat.not_lt_zero _)⟩
 case round =>
  obtain ⟨k,hk,rfl,hp⟩:=hrel
  have HP:=ld hp
  clear hp
  by_cases hlt:k<xs.length
  ·have hg:=List.getElem?_eq_getElem hlt
   obtain ⟨ba,o,rfl,_,c0⟩:=ints_at hr hg
   have HG:=ld hg
   clear hg
   generalize xs[k]=y at c0 HG
   by_cases hy:y=id
   ·subst hy
    have HX:=ld (ixf_hit HG.out HP.out)
    go_wp2_with (go_at_call 81;refine (isId_any _ _ g b _ h1 h2).mono ?_;rintro e w' ⟨rfl,rfl⟩)
    go_ret
    exact ⟨by rw [HX.out];rfl,rfl⟩
   ·have hyb:(y==id)=false:=by simpa using hy
    go_wp2_with (go_at_call 81;refine (isId_any _ _ g b _ h1 h2).mono ?_;rintro e w' ⟨rfl,rfl⟩)
    go_round
    case rel =>
     refine ⟨k+1,by omega,by go_num,fun j hj=>?_⟩
     rcases Nat.lt_or_ge j k with h | h
     ·exact HP.out j h
     ·have:j=k:=by omega
      subst this;rw [HG.out];simpa using fun e:y=id=>hy e
    case measure=>simp [intOf];omega
  ·have hkl:k=xs.length:=by omega
   have HX:=ld (ixf_miss (xs:=xs) (x:=id) (fun j hj=>HP.out j (by omega)))
   clear hkl
   go_wp2
   go_ret
   exact ⟨by rw [HX.out];rfl,rfl⟩
def others (id:Int) (peers:List Int):List Int:=peers.filter (·≠id)
theorem others_take_snoc (id:Int) (xs:List Int) (j:Nat) (y:Int) (h:xs[j]?=some y):others id (xs.take (j+1))=others id (xs.take j)++if y=id then [] else [y]:=by
 unfold others
 rw [List.take_add_one,h,List.filter_append]
 by_cases hy:y=id <;> simp [hy]
theorem others_none (id:Int) (xs:List Int) (h:id ∉ xs):others id xs=xs:=by
 unfold others
 rw [List.filter_eq_self]
 intro x hx
 simp only [ne_eq,decide_not,Bool.not_eq_true',decide_eq_false_iff_not]
 exact fun e=>h (e▸hx)
theorem others_take_first (id:Int) (xs:List Int) (k:Nat) (h:∀ j,j<k→xs[j]?≠some id):others id (xs.take k)=xs.take k:=by
 refine others_none _ _ fun hm=>?_
 obtain ⟨j,hj,e⟩:=List.getElem_of_mem hm
 have hj':j<k∧j<xs.length:=by simp at hj;omega
 exact h j hj'.1 (by rw [List.getElem?_eq_getElem hj'.2];simpa using e)
theorem ixf_first {xs:List Int} {x:Int} (h:x∈xs):∃ k:Nat,ixf xs x=k∧xs[k]?=some x∧∀ j,j<k→xs[j]?≠some x:=by
 refine ⟨xs.findIdx (·=x),by unfold ixf;rw [if_pos h],?_,?_⟩
 ·have hl:xs.findIdx (·=x)<xs.length:=List.findIdx_lt_length_of_exists ⟨x,h,by simp⟩
  rw [List.getElem?_eq_getElem hl]
  have:=List.findIdx_getElem (w:=hl)
  simpa using this
 ·intro j hj e
  have:=List.not_of_lt_findIdx hj
  have hjl:j<xs.length:=(List.getElem?_eq_some_iff.1 e).1
  rw [List.getElem?_eq_getElem hjl] at e
  simp at e this
  exact this e
theorem zero3:∀ w,(zeroValue 3).run Tryz.prog w=.ok (.int .i64 0) w:=fun w=>by kernel_rfl
theorem run_clear_ints (w:World) (ty:TypeId) (g o n c:Nat) (cur:Array Value) (hg:w.heap[g]?=some (.cells cur 3 (0,0))) (hn:0<n) (hl:o+n≤cur.size) :
  (Builtin.clear_ #[25] ty #[.slice (some ⟨g,o,none⟩) n c]).run Tryz.prog w=.ok (.tuple #[]) (w.setRow g (cur.toList.take o++List.replicate n (Value.int .i64 0)++cur.toList.drop (o+n)).toArray):=by
 have hz:(Value.int .i64 0).cells=#[.int .i64 0]:=rfl
 have hzc:(Builtin.zeroCells (Value.int .i64 0).cells n).toList=List.replicate n (.int .i64 0):=by
  rw [hz]
  simp [Builtin.zeroCells]
  apply List.ext_getElem
  ·simp
  ·intro i h1 h2
   simp [Nat.mod_one]
 have hst:=run_storeCells_at (P:=Tryz.prog) g o 3 (List.replicate n (.int .i64 0)) 0 cur w hg (by simpa using hl) (by intro v hv';rw [List.eq_of_mem_replicate hv'];rfl)
 simp only [Nat.add_zero,List.length_replicate] at hst
 obtain ⟨m,rfl⟩:∃ m,n=m+1:=⟨n-1,by omega⟩
 simp [Builtin.clear_,run_underlying Tryz.underlying25,hzc,hst]
structure DInv (w wr:World) (ga n cp:Nat) (id:Int) (xs:List Int) (j:Nat) (i:Nat) (cur:Array Value):Prop where
 blk:wr.heap[ga]?=some (.cells cur 3 (0,0))
 size:cur.size=cp
 i_eq:i=(others id (xs.take j)).length
 lt:i<j
 front:∀ (t:Nat) (x:Int),(others id (xs.take j))[t]?=some x→cur[t]?=some (.int .i64 x)
 back:∀ (t:Nat) (x:Int),j≤t→xs[t]?=some x→cur[t]?=some (.int .i64 x)
 grown:w.grownBy wr (some ga)
theorem DInv.skip {w wr:World} {ga n cp:Nat} {id:Int} {xs:List Int} {j i:Nat} {cur:Array Value} (h:DInv w wr ga n cp id xs j i cur) (hx:xs[j]?=some id):DInv w wr ga n cp id xs (j+1) i cur:=by
 have ho:others id (xs.take (j+1))=others id (xs.take j):=by rw [others_take_snoc id xs j id hx];simp
 exact ⟨h.blk,h.size,by rw [ho];exact h.i_eq,by have:=h.lt;omega,by rw [ho];exact h.front,fun t x ht hx=>h.back t x (by omega) hx,h.grown⟩
theorem DInv.put {w wr:World} {ga n cp:Nat} {id y:Int} {xs:List Int} {j i:Nat} {cur:Array Value} (h:DInv w wr ga n cp id xs j i cur) (hx:xs[j]?=some y) (hy:y≠id) (hc:xs.length≤cp):DInv w (wr.setCell ⟨ga,i,none⟩ (.int .i64 y)) ga n cp id xs (j+1) (i+1) (cur.setIfInBounds i (.int .i64 y)):=by
 have ho:others id (xs.take (j+1))=others id (xs.take j)++[y]:=by rw [others_take_snoc id xs j y hx,if_neg hy]
 have hjl:j<xs.length:=(List.getElem?_eq_some_iff.1 hx).1
 have hi:=h.i_eq
 have hlt:=h.lt
 have hsz:=h.size
 refine ⟨block_setCell h.blk _,by simpa using h.size,by rw [ho];simp [←hi],by omega,fun t x ht=>?_,fun t x ht hx=>?_,⟨h.grown.os,h.grown.tape,h.grown.output,by have:=h.grown.size;simp [World.setCell];omega,fun k hk hn=>(Below.heap_setCell _ _ _ _ (fun e=>hn (by rw [e]))).trans (h.grown.block k hk hn)⟩⟩
 ·rw [ho] at ht
  rw [Array.getElem?_setIfInBounds]
  rcases Nat.lt_trichotomy t i with h1 | h1 | h1
  ·rw [if_neg (by omega)]
   rw [List.getElem?_append_left (by omega)] at ht
   exact h.front t x ht
  ·subst h1
   rw [hi,List.getElem?_append_right (Nat.le_refl _)] at ht
   simp at ht
   subst ht
   rw [if_pos rfl,if_pos (by omega)]
  ·rw [List.getElem?_append_right (by omega)] at ht
   rw [List.getElem?_eq_none (by simp;omega)] at ht
   cases ht
 ·rw [Array.getElem?_setIfInBounds,if_neg (by omega)]
  exact h.back t x (by omega) hx
theorem DInv.last {w wr:World} {ga n cp:Nat} {id:Int} {xs:List Int} {j i m:Nat} {cur:Array Value} (h:DInv w wr ga n cp id xs j i cur) (hj:j=xs.length) (v:Value):i=(others id xs).length ∧
  Row encI 1 (wr.setRow ga (cur.toList.take i++List.replicate m v++cur.toList.drop (i+m)).toArray) (wr.setRow ga (cur.toList.take i++List.replicate m v++cur.toList.drop (i+m)).toArray).heap.size (some ⟨ga,0,none⟩) (others id xs) ∧
  w.grownBy (wr.setRow ga (cur.toList.take i++List.replicate m v++cur.toList.drop (i+m)).toArray) (some ga):=by
 have e:xs.take j=xs:=List.take_of_length_le (by omega)
 have hi:=h.i_eq
 rw [e] at hi
 have hlt:=block_lt h.blk
 refine ⟨hi,.inr ⟨ga,0,rfl,by simpa [World.setRow] using hlt,fun k x hk jj v' hv=>?_⟩,⟨h.grown.os,h.grown.tape,h.grown.output,by have:=h.grown.size;simp [World.setRow];omega,fun k hk hn=>?_⟩⟩
 ·have hkl:k<i:=by rw [hi];exact (List.getElem?_eq_some_iff.1 hk).1
  have hc:=h.front k x (by rw [e];exact hk)
  have hkc:k<cur.size:=(Array.getElem?_eq_some_iff.1 hc).1
  have hj0:jj=0:=by have:=(List.getElem?_eq_some_iff.1 hv).1;simp [encI] at this;omega
  subst hj0
  simp [encI] at hv
  subst hv
  refine cell_block (setRow_heap wr ga _ _ _ _ h.blk) _ _ ?_
  simp only [List.getElem?_toArray,Nat.zero_add,Nat.mul_one,Nat.add_zero]
  rw [List.append_assoc,List.getElem?_append_left (by simp;omega),List.getElem?_take,if_pos hkl]
  simpa using hc
 ·rw [setRow_other wr ga k _ (fun e=>hn (by rw [e]))]
  exact h.grown.block k hk hn
end Go.Proofs.YtocogcgnahbpkaaGreat
