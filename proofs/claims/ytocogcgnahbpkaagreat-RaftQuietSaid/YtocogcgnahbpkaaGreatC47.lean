/-
  RaftQuiet: for every nodes, least, more, beat, batch, apart and every script the law returns true, and its arguments read behind the call as they did.
  No condition. (The proof lies in C0 .. C47; what each text holds: NOTES.md.)
-/
import Derived.Deep.Slices
import Derived.Deep.Fields
import Derived.Test.YtocogcgnahbpkaaGreatRows
import Derived.ProofKit
import Derived.SizedLaws
import Derived.Lib.SmallJoins
import Derived.Test.YtocogcgnahbpkaaGreatC45
import Derived.Test.YtocogcgnahbpkaaGreatC46
namespace Go.Proofs.YtocogcgnahbpkaaGreat
open Go.ChangeShapes Go.WideShapes Go.RowKit Go.Deep
theorem c3:Tryz.prog.cellsOf 3=1:=by kernel_rfl
theorem c4:Tryz.prog.cellsOf 4=1:=by kernel_rfl
theorem c29:Tryz.prog.cellsOf 29=1:=by kernel_rfl
theorem c31:Tryz.prog.cellsOf 31=6:=by kernel_rfl
section
variable {H:Type} {enc:TypeId×Value→H}
theorem one_int {W:World} {sp:Nat→Bool} {hd:Bool} {fuel:Nat} {v:Value} {y:DataW H×List MemPlace} (h:DataW.trod enc Tryz.prog W 0 sp hd fuel 3 [v]=some y):∃ n,v=.int .i64 n:=by
 obtain ⟨n,e,_,_⟩:=DataW.trod_int Tryz.underlying3 h
 injection e with e _
 exact ⟨n,e⟩
theorem one_bool {W:World} {sp:Nat→Bool} {hd:Bool} {fuel:Nat} {v:Value} {y:DataW H×List MemPlace} (h:DataW.trod enc Tryz.prog W 0 sp hd fuel 4 [v]=some y):∃ n,v=.bool n:=by
 obtain ⟨n,e,_⟩:=DataW.trod_bool Tryz.underlying4 h
 injection e with e _
 exact ⟨n,e⟩
set_option maxRecDepth 100000 in
theorem act_value {W:World} {hd:Bool} {fuel:Nat} {cs:List Value} {y:DataW H×List MemPlace} (hl:cs.length=6) (h:DataW.trod enc Tryz.prog W 0 (fun _=>true) hd fuel 31 cs=some y) (hw:∀ n∈y.1.weights Tryz.prog 31,n≤reachBytes) :
  ∃ (q:AR×List (BR×List Int)),cs=encA q.1∧DataS W (·<W.heap.size) q.1.A q.2∧q.1.dn=q.2.length:=by
 obtain ⟨xs,n,_,hx,_,hlen,hg⟩:=DataW.trod_struct Tryz.underlying31 h
 match cs,hl,xs,hlen,hg,hx with
 | [v0,v1,v2,v3,v4,v5],_,[y0,y1,y2,y3,y4,y5],_,hg,hx =>
  obtain ⟨n0,rfl⟩:=one_int (y:=y0) (by simpa [c3] using hg 0 _ rfl)
  obtain ⟨n1,rfl⟩:=one_int (y:=y1) (by simpa [c3] using hg 1 _ rfl)
  obtain ⟨n2,rfl⟩:=one_int (y:=y2) (by simpa [c3] using hg 2 _ rfl)
  obtain ⟨n3,rfl⟩:=one_int (y:=y3) (by simpa [c3] using hg 3 _ rfl)
  obtain ⟨n5,rfl⟩:=one_bool (y:=y5) (by simpa [c4] using hg 5 _ rfl)
  obtain ⟨A,c,ds,hcs,hD,hdl⟩:=open_data (x:=y4) (show DataW.trod enc Tryz.prog W 0 (fun _=>true) hd n 29 [v4]=some y4 by simpa [c29] using hg 4 _ rfl) (fun m hm=>hw m (by
   rw [hx]
   simp [DataW.weightsEach,DataW.weights,Tryz.underlying31,hm]))
  injection hcs with hcs _
  subst hcs
  exact ⟨(⟨n0,n1,n2,n3,A,ds.length,c,n5⟩,ds),rfl,hD,rfl⟩
theorem open_acts {W:World} {hd:Bool} {fuel:Nat} {cs:List Value} {x:DataW H×List MemPlace} (h:DataW.trod enc Tryz.prog W 0 (fun _=>true) hd fuel 22 cs=some x) (hw:∀ n∈x.1.weights Tryz.prog 22,n≤reachBytes) :
  ∃ (A:Option Addr) (c:Nat) (xs:List (AR×List (BR×List Int))),cs=[.slice A xs.length c]∧ActS W (·<W.heap.size) A xs∧xs.length≤140737488351232:=by
 rcases open_slice Tryz.underlying22 h with ⟨hcs,_⟩ | ⟨a,len,cap,m,n,D,Pl,hcs,_,hlc,hcm,hm,hx,hel⟩
 ·exact ⟨none,0,[],hcs,⟨.inl rfl,fun p hp=>nomatch hp⟩,by simp⟩
 ·have hlm:len≤m:=by rw [hm];split <;> omega
  have key:∀ i:Nat,∃ q:AR×List (BR×List Int),i<len→(∀ j v,(encA q.1)[j]?=some v→W.cell? (a.add (i*6+j))=some v)∧DataS W (·<W.heap.size) q.1.A q.2∧q.1.dn=q.2.length:=by
   intro i
   by_cases hi:i<len
   ·obtain ⟨cs',hc,ht⟩:=hel i (by omega)
    rw [c31] at hc
    obtain ⟨_,hcl,hat⟩:=World.cells?_some hc
    obtain ⟨q,rfl,hD,hdn⟩:=act_value hcl ht (fun k hk=>hw k (by
     rw [hx]
     simp only [DataW.weights,Tryz.underlying22,List.mem_cons,List.mem_append]
     right;left
     exact weights_mem_all (d:=D i) (List.mem_map.2 ⟨i,List.mem_range.2 hi,rfl⟩) _ hk))
    refine ⟨q,fun _=>⟨fun j v hv=>?_,hD,hdn⟩⟩
    have hj:j<6:=(List.getElem?_eq_some_iff.1 hv).1
    have:=hat j hj
    rw [hv,Go.Deep.add_add] at this
    exact this
   ·exact ⟨(⟨0,0,0,0,none,0,0,false⟩,[]),fun h=>absurd h hi⟩
  let X:Nat→AR×List (BR×List Int):=fun i=>Classical.choose (key i)
  have hX:∀ i,i<len→(∀ j v,(encA (X i).1)[j]?=some v→W.cell? (a.add (i*6+j))=some v)∧DataS W (·<W.heap.size) (X i).1.A (X i).2∧(X i).1.dn=(X i).2.length:=fun i=>Classical.choose_spec (key i)
  have hxl:((List.range len).map X).length=len:=by simp
  have hwn:(len+(m-len))*Tryz.prog.bytesOf 31≤reachBytes:=by
   refine hw _ ?_
   rw [hx]
   simp [DataW.weights,Tryz.underlying22]
  have hb:1≤Tryz.prog.bytesOf 31:=by
   have:Tryz.prog.bytesOf 31=64:=by kernel_rfl
   omega
  unfold reachBytes at hwn
  have hln:len≤140737488351232:=by
   have h1:len*1≤(len+(m-len))*Tryz.prog.bytesOf 31:=Nat.mul_le_mul (by omega) hb
   omega
  refine ⟨some a,cap,(List.range len).map X,by rw [hxl];exact hcs,⟨?_,fun p hp=>?_⟩,by rw [hxl];exact hln⟩
  ·rcases Nat.eq_zero_or_pos len with h0 | h0
   ·subst h0;exact .inl rfl
   ·have hc0:=(hX 0 h0).1 0 _ rfl
    obtain ⟨hs,hbl⟩:=cell_lt hc0
    obtain ⟨b,o,spot⟩:=a
    have hspot:spot=none:=by simpa [Addr.add] using hs
    subst hspot
    refine .inr ⟨b,o,rfl,by simpa [Addr.add] using hbl,fun k y hk j v hv=>?_⟩
    rw [List.map_map,List.getElem?_map] at hk
    have hkl:k<len:=by
     rcases Nat.lt_or_ge k len with h | h
     ·exact h
     ·rw [List.getElem?_eq_none (by simpa using h)] at hk;cases hk
    rw [List.getElem?_range hkl] at hk
    simp only [Option.map_some,Option.some.injEq,Function.comp] at hk
    subst hk
    have:=(hX k hkl).1 j v hv
    rw [Addr.add_lit,←Nat.add_assoc] at this
    exact this
  ·obtain ⟨i,hi,rfl⟩:=List.mem_map.1 hp
   exact (hX i (List.mem_range.1 hi)).2
end
end Go.Proofs.YtocogcgnahbpkaaGreat
namespace Go.Proofs.YtocogcgnahbpkaaGreat
open Go.ChangeShapes Go.WideShapes Go.ChangeAt Go.RowKit Go.Deep Go.Joins
theorem own:ownKnob Tryz.prog.godebug=none:=by kernel_rfl
theorem laidOut:laidOutB Tryz.prog=true:=by kernel_rfl
section
variable {H:Type} {enc:TypeId×Value→H}
set_option maxRecDepth 100000 in
theorem int_arg {W:World} {base:Nat} {sp:Nat→Bool} {hd:Bool} {v:Value} {d:DataW H} {p:List MemPlace} (hv:Value.okWide Tryz.prog W .any base 3 v) (_:DataW.Trod enc Tryz.prog W 0 sp hd 3 v d p):∃ n,v=.int .i64 n:=by
 exact okWide_int Tryz.underlying3 hv
end
end Go.Proofs.YtocogcgnahbpkaaGreat
namespace Go.Proofs.YtocogcgnahbpkaaGreat
open Go.ChangeShapes Go.WideShapes Go.ChangeAt Go.RowKit Go.Deep Go.Joins
section
variable {H:Type} {enc:TypeId×Value→H} {P:Program} {w:World} {base:Nat} {spare:Nat→Bool} {held:Bool}
theorem trodAll_seven {t t' t'' t3 t4 t5 t6:TypeId} {args:Array Value} {ds:List (DataW H)} {ps:List MemPlace} (h:DataW.TrodAll enc P w base spare held [t,t',t'',t3,t4,t5,t6] args.toList ds ps) :
  ∃ v v' v'' v3 v4 v5 v6 d d' d'' d3 d4 d5 d6 p p' p'' p3 p4 p5 p6,args=#[v,v',v'',v3,v4,v5,v6]∧ds=[d,d',d'',d3,d4,d5,d6]∧ps=p++p'++p''++p3++p4++p5++p6∧DataW.Trod enc P w base spare held t v d p∧DataW.Trod enc P w base spare held t' v' d' p'∧DataW.Trod enc P w base spare held t'' v'' d'' p''∧DataW.Trod enc P w base spare held t3 v3 d3 p3∧DataW.Trod enc P w base spare held t4 v4 d4 p4∧DataW.Trod enc P w base spare held t5 v5 d5 p5∧DataW.Trod enc P w base spare held t6 v6 d6 p6:=by
 obtain ⟨v,vs,d,ds1,p,q,hargs,rfl,rfl,hd,hrest⟩:=trodAll_cons h
 obtain ⟨v',vs11,d',ds11,p',q11,rfl,rfl,rfl,h21,hrest1⟩:=trodAll_cons hrest
 obtain ⟨v'',vs12,d'',ds12,p'',q12,rfl,rfl,rfl,h22,hrest2⟩:=trodAll_cons hrest1
 obtain ⟨v3,vs13,d3,ds13,p3,q13,rfl,rfl,rfl,h23,hrest3⟩:=trodAll_cons hrest2
 obtain ⟨v4,vs14,d4,ds14,p4,q14,rfl,rfl,rfl,h24,hrest4⟩:=trodAll_cons hrest3
 obtain ⟨v5,vs15,d5,ds15,p5,q15,rfl,rfl,rfl,h25,hrest5⟩:=trodAll_cons hrest4
 obtain ⟨v6,vs16,d6,ds16,p6,q16,rfl,rfl,rfl,h26,hrest6⟩:=trodAll_cons hrest5
 obtain ⟨rfl,rfl,rfl⟩:=trodAll_nil hrest6
 exact ⟨v,v',v'',v3,v4,v5,v6,d,d',d'',d3,d4,d5,d6,p,p',p'',p3,p4,p5,p6,by cases args;simp_all,rfl,by simp,hd,h21,h22,h23,h24,h25,h26⟩
theorem trodAll_mk7 {t t' t'' t3 t4 t5 t6:TypeId} {v v' v'' v3 v4 v5 v6:Value} {d d' d'' d3 d4 d5 d6:DataW H} {p p' p'' p3 p4 p5 p6:List MemPlace} (h:DataW.Trod enc P w base spare held t v d p) (h':DataW.Trod enc P w base spare held t' v' d' p') (h'':DataW.Trod enc P w base spare held t'' v'' d'' p'') (h3:DataW.Trod enc P w base spare held t3 v3 d3 p3) (h4:DataW.Trod enc P w base spare held t4 v4 d4 p4) (h5:DataW.Trod enc P w base spare held t5 v5 d5 p5) (h6:DataW.Trod enc P w base spare held t6 v6 d6 p6):DataW.TrodAll enc P w base spare held [t,t',t'',t3,t4,t5,t6] [v,v',v'',v3,v4,v5,v6] [d,d',d'',d3,d4,d5,d6] (p++p'++p''++p3++p4++p5++p6) :=
 ⟨p,_,h,⟨p',_,h',⟨p'',_,h'',⟨p3,_,h3,trodAll_mk3 h4 h5 h6,rfl⟩,rfl⟩,rfl⟩,by simp⟩
end
set_option maxRecDepth 100000 in
theorem quiet_lifted (os:Os) (started:os.Started) (H:Type) (enc:TypeId×Value→H) :
  ReturnsInHanded {} Tryz.checked os 4 .any (Rows.raftQuietSpec.pre6 enc Tryz.prog Tryz.f4 Rows.raftQuietRow.domain false) (Rows.raftQuietSpec.post enc Tryz.prog Tryz.f4 false true false false):=by
 refine returnsInHanded_of_change_sized (C:=Tryz.checked) own started (by kernel_rfl) Tryz.func4
  (ChangeSpec.witness6 (enc:=enc) (C:=Tryz.checked) false ⟨#[],#[.int .i64 0,.int .i64 0,.int .i64 0,.int .i64 0,.int .i64 0,.int .i64 0,.slice none 0 0],[]⟩ 8 (by kernel_rfl) (by kernel_rfl) (by kernel_rfl) (by kernel_rfl)) ?_
 intro W base args ds gs before hval0 hW _ hsz0 _
 have hsz:(DataW.weightsEach Tryz.prog (Tryz.f4.params.toList++Rows.raftQuietSpec.plain.varTypes Tryz.prog) (ds++gs)).all (·≤reachBytes)=true:=hsz0
 clear hsz0
 have hval:∀ (j:Nat) t v,Tryz.f4.params[j]?=some t→args[j]?=some v→Value.okWide Tryz.prog W .any base t v:=hval0
 have hW':=hW
 obtain ⟨p,q,hA0,hV,rfl,_,_⟩:=hW
 have hA:DataW.TrodAll enc Tryz.prog W 0 (fun _=>true) true Tryz.f4.params.toList args.toList ds p:=hA0
 rw [Tryz.params4] at hA hval hsz
 obtain ⟨v0,v1,v2,v3,v4,v5,v6,d0,d1,d2,d3,d4,d5,d6,p0,p1,p2,p3,p4,p5,p6,rfl,rfl,rfl,h0,h1,h2,h3,h4,h5,h6⟩:=trodAll_seven hA
 obtain ⟨rfl,rfl⟩:=trodVars_none hV
 have h0k:=h0
 have h1k:=h1
 have h2k:=h2
 have h3k:=h3
 have h4k:=h4
 have h5k:=h5
 have h6k:=h6
 clear hA0 hval0
 simp only [List.append_nil] at hW'
 have hlt:∀ x∈p0++p1++p2++p3++p4++p5++p6,x.block<W.heap.size:=fun x hx=>by simpa using hW'.lt x hx
 obtain ⟨n,rfl⟩:=int_arg (hval 0 3 v0 rfl rfl) h0
 obtain ⟨a,rfl⟩:=int_arg (hval 1 3 v1 rfl rfl) h1
 obtain ⟨b,rfl⟩:=int_arg (hval 2 3 v2 rfl rfl) h2
 obtain ⟨c,rfl⟩:=int_arg (hval 3 3 v3 rfl rfl) h3
 obtain ⟨d,rfl⟩:=int_arg (hval 4 3 v4 rfl rfl) h4
 obtain ⟨ap,rfl⟩:=int_arg (hval 5 3 v5 rfl rfl) h5
 obtain ⟨fuel,hf⟩:=h6
 obtain ⟨a0,len0,cap0,rfl⟩:=okWide_slice Tryz.underlying22 (hval 6 22 v6 rfl rfl)
 obtain ⟨A,cp,xs,hcs,hD,hlen⟩:=open_acts hf (fun n hn=>by
  have:=List.all_eq_true.1 hsz n (DataW.weights_mem_each (j:=6) (t:=22) (d:=d6) rfl rfl n hn)
  simpa using this)
 simp only [Value.cells] at hcs
 have hcs':Value.slice a0 len0 cap0=.slice A xs.length cp:=by simpa using hcs
 rw [hcs'] at h6k hW' ⊢
 refine (quiet_true n a b c d ap A cp xs W hD hlen).mono fun e W' ⟨he,hb⟩=>?_
 subst he
 exact ⟨_,rfl,_,_,_,[],p0++p1++p2++p3++p4++p5++p6,[],hW',trodAll_mk1 (shut_bool Tryz.underlying4 _),
  trodAll_mk7 (Below.trod laidOut (by kernel_rfl) (of_decide_eq_true (by kernel_rfl)) h0k hb (fun x hx=>hlt x (by simp [hx]))) (Below.trod laidOut (by kernel_rfl) (of_decide_eq_true (by kernel_rfl)) h1k hb (fun x hx=>hlt x (by simp [hx])))
   (Below.trod laidOut (by kernel_rfl) (of_decide_eq_true (by kernel_rfl)) h2k hb (fun x hx=>hlt x (by simp [hx]))) (Below.trod laidOut (by kernel_rfl) (of_decide_eq_true (by kernel_rfl)) h3k hb (fun x hx=>hlt x (by simp [hx])))
   (Below.trod laidOut (by kernel_rfl) (of_decide_eq_true (by kernel_rfl)) h4k hb (fun x hx=>hlt x (by simp [hx]))) (Below.trod laidOut (by kernel_rfl) (of_decide_eq_true (by kernel_rfl)) h5k hb (fun x hx=>hlt x (by simp [hx]))) (Below.trod laidOut (by kernel_rfl) (of_decide_eq_true (by kernel_rfl)) h6k hb (fun x hx=>hlt x (by simp [hx]))),
  rfl,hb.frame _,fun h=>by cases h⟩
theorem raftQuiet_holds:Rows.RaftQuietSaid :=
 OpenClaim.holds_of_wide 4 Tryz.f4 rfl rfl rfl rfl rfl rfl rfl ⟨rfl,rfl,rfl,rfl,rfl⟩ rfl rfl rfl rfl rfl (by kernel_rfl) Tryz.func4 (by kernel_rfl)
  (of_decide_eq_true (by kernel_rfl)) (by unfold Func.isWrapper;first | (rw [if_pos (by decide +kernel)];kernel_rfl) | (rw [if_neg (by decide +kernel)];exact ⟨rfl,rfl⟩))
  (fun os started H enc _=>quiet_lifted os started H enc)
end Go.Proofs.YtocogcgnahbpkaaGreat
