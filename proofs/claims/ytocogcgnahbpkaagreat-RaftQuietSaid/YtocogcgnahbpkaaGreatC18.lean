import Derived.Laws.BytesArg
import Derived.Test.YtocogcgnahbpkaaGreatC12
import Derived.Test.YtocogcgnahbpkaaGreatC14
import Derived.Test.YtocogcgnahbpkaaGreatC15
import Derived.Test.YtocogcgnahbpkaaGreatC17
namespace Go.Proofs.YtocogcgnahbpkaaGreat
open Go.RowKit
theorem bytes_str {w:World} {B n c:Nat} {A:Option Addr} {xs:List Int} (h:Bytes w B A xs) (hn:n=xs.length):(convert 65 9 (.slice A n c)).run Tryz.prog w=.ok (.string (strOfNums xs)) w:=by
 subst hn
 rcases h with rfl | ⟨b,o,rfl,_,hc⟩
 ·cases A with
  | none=>exact run_convert_bytes_nil w 65 5 Tryz.underlying65 Tryz.underlying5 _ _ 9 Tryz.underlying9
  | some a =>
   rw [run_convert_bytes_string w 65 9 5 _ _ c Tryz.underlying65 Tryz.underlying5 Tryz.underlying9,run_bytesToString w a _ c [] (by simpa using run_loadCells_list (P:=Tryz.prog) w a [] (by simp))]
   rfl
 ·refine run_convert_bytes_arg w 65 5 Tryz.underlying65 Tryz.underlying5 b o _ c xs rfl (fun i hi=>?_) 9 Tryz.underlying9
  have:=hc i xs[i] (List.getElem?_eq_getElem hi) 0 _ rfl
  simpa [List.getD,List.getElem?_eq_getElem hi] using this
set_option maxRecDepth 100000 in
set_option maxHeartbeats 4000000 in
theorem sameLog_yes (A B:Option Addr) (n c m d:Nat) (ps qs:List (LE×List Int)) (w:World) (hA:Ents w w.heap.size A ps) (hn:n=ps.length) (hB:Ents w w.heap.size B qs) (hm:m=qs.length) (hl:ps.length≤100000) (h:ps.map con=qs.map con) :
  Calls Tryz.prog 45 #[.slice A n c,.slice B m d] w fun e w'=>e=.returned (.bool true)∧∃ k,w'=w.drewN k:=by
 have hlen:qs.length=ps.length:=by simpa using (congrArg List.length h).symm
 rw [hlen] at hm
 subst hn hm
 have HH:=ld h
 have HL:=ld hlen
 clear h hlen
 go_enter Tryz.func45,Tryz.ntmps45
 go_wp2
 go_loopw [5] (fun i wr=>∃ k nq:Nat,i=.int .i64 k∧k≤ps.length∧wr=w.drewN nq) (fun i _=>ps.length-(intOf i).toNat)
 case atStart=>exact ⟨0,0,rfl,by omega,rfl⟩
 case round =>
  obtain ⟨k,nq,rfl,hk,rfl⟩:=hrel
  by_cases hlt:k<ps.length
  ·obtain ⟨p,hpk⟩:∃ p,ps[k]?=some p:=⟨_,List.getElem?_eq_getElem hlt⟩
   obtain ⟨q,hqk⟩:∃ q,qs[k]?=some q:=⟨_,List.getElem?_eq_getElem (by have:=HL.out;omega)⟩
   obtain ⟨ba,oa,rfl,_,c0,c1,c2⟩:=ents_at hA hpk
   obtain ⟨bb,ob,rfl,_,d0,d1,d2⟩:=ents_at hB hqk
   obtain ⟨hB1,hn1,_⟩:=hA.each _ (List.mem_of_getElem? hpk)
   obtain ⟨hB2,hn2,_⟩:=hB.each _ (List.mem_of_getElem? hqk)
   have hcon:con q=con p:=by
    have:=congrArg (fun l=>l[k]?) HH.out
    simp only [List.getElem?_map,hpk,hqk,Option.map_some,Option.some.injEq] at this
    exact this.symm
   simp only [con,E.mk.injEq] at hcon
   obtain ⟨e1,e2,e3⟩:=hcon
   rw [e1] at d0
   rw [e2] at d1
   rw [e3] at hB2 hn2
   have s1:∀ j,(convert 65 9 (.slice p.1.A p.1.n p.1.c)).run Tryz.prog (w.drewN j)=.ok (.string (strOfNums p.2)) (w.drewN j):=fun j=>bytes_str (B:=w.heap.size) (hB1.drewN j) hn1
   have s2:∀ j,(convert 65 9 (.slice q.1.A q.1.n q.1.c)).run Tryz.prog (w.drewN j)=.ok (.string (strOfNums p.2)) (w.drewN j):=fun j=>bytes_str (B:=w.heap.size) (hB2.drewN j) hn2
   clear hA hB hpk hqk hB1 hB2 hn1 hn2 e1 e2 e3
   go_upto_region 6 with (fail)
   go_quiet (fail)
   go_wp2
   go_roundw
   case rel=>exact ⟨k+1,_,by go_num,by omega,by first | rfl | simp only [World.drewN_drewN]⟩
   case measure=>simp [intOf];omega
  ·go_wp2
   go_ret
   exact ⟨rfl,_,rfl⟩
section
variable {w:World} {bw b:Nat} {g:VG} {x:SG}
theorem vw2 (h:w.heap[bw]?=some (.cells (wcellsG g) 43 (0,0))):w.cell? ⟨bw,2,none⟩=some (.int .i64 g.L):=cell_block h 2 _ rfl
theorem vw3 (h:w.heap[bw]?=some (.cells (wcellsG g) 43 (0,0))):w.cell? ⟨bw,3,none⟩=some (.int .i64 g.Mo):=cell_block h 3 _ rfl
theorem vw4 (h:w.heap[bw]?=some (.cells (wcellsG g) 43 (0,0))):w.cell? ⟨bw,4,none⟩=some (.int .i64 g.Bt):=cell_block h 4 _ rfl
theorem vw5 (h:w.heap[bw]?=some (.cells (wcellsG g) 43 (0,0))):w.cell? ⟨bw,5,none⟩=some (.int .i64 g.Ba):=cell_block h 5 _ rfl
theorem vw6 (h:w.heap[bw]?=some (.cells (wcellsG g) 43 (0,0))):w.cell? ⟨bw,6,none⟩=some (.slice g.sA g.n g.sc):=cell_block h 6 _ rfl
theorem vw7 (h:w.heap[bw]?=some (.cells (wcellsG g) 43 (0,0))):w.cell? ⟨bw,7,none⟩=some (.slice g.nA g.nn g.nc):=cell_block h 7 _ rfl
theorem vw8 (h:w.heap[bw]?=some (.cells (wcellsG g) 43 (0,0))):w.cell? ⟨bw,8,none⟩=some (.map (some g.mL)):=cell_block h 8 _ rfl
theorem vw9 (h:w.heap[bw]?=some (.cells (wcellsG g) 43 (0,0))):w.cell? ⟨bw,9,none⟩=some (.map (some g.mV)):=cell_block h 9 _ rfl
theorem vw10 (h:w.heap[bw]?=some (.cells (wcellsG g) 43 (0,0))):w.cell? ⟨bw,10,none⟩=some (.map (some g.mK)):=cell_block h 10 _ rfl
theorem vw11 (h:w.heap[bw]?=some (.cells (wcellsG g) 43 (0,0))):w.cell? ⟨bw,11,none⟩=some (.map (some g.mT)):=cell_block h 11 _ rfl
theorem vw12 (h:w.heap[bw]?=some (.cells (wcellsG g) 43 (0,0))):w.cell? ⟨bw,12,none⟩=some (.int .i64 g.high):=cell_block h 12 _ rfl
theorem vw13 (h:w.heap[bw]?=some (.cells (wcellsG g) 43 (0,0))):w.cell? ⟨bw,13,none⟩=some (.bool g.calm):=cell_block h 13 _ rfl
theorem vs0 (h:w.heap[b]?=some (.cells (scellsG x) 52 (0,0))):w.cell? ⟨b,0,none⟩=some (.int .i64 x.id):=cell_block h 0 _ rfl
theorem vs1 (h:w.heap[b]?=some (.cells (scellsG x) 52 (0,0))):w.cell? ⟨b,1,none⟩=some (.pointer (some ⟨x.bn,0,none⟩)):=cell_block h 1 _ rfl
theorem vs2 (h:w.heap[b]?=some (.cells (scellsG x) 52 (0,0))):w.cell? ⟨b,2,none⟩=some (.pointer none):=cell_block h 2 _ rfl
theorem vs3 (h:w.heap[b]?=some (.cells (scellsG x) 52 (0,0))):w.cell? ⟨b,3,none⟩=some (.int .i64 x.t):=cell_block h 3 _ rfl
theorem vs4 (h:w.heap[b]?=some (.cells (scellsG x) 52 (0,0))):w.cell? ⟨b,4,none⟩=some (.int .i64 x.v):=cell_block h 4 _ rfl
theorem vs5 (h:w.heap[b]?=some (.cells (scellsG x) 52 (0,0))):w.cell? ⟨b,5,none⟩=some (.int .i64 0):=cell_block h 5 _ rfl
theorem vs6 (h:w.heap[b]?=some (.cells (scellsG x) 52 (0,0))):w.cell? ⟨b,6,none⟩=some (.int .i64 0):=cell_block h 6 _ rfl
theorem vs7 (h:w.heap[b]?=some (.cells (scellsG x) 52 (0,0))):w.cell? ⟨b,7,none⟩=some (.slice x.dA x.dn x.dc):=cell_block h 7 _ rfl
theorem vs8 (h:w.heap[b]?=some (.cells (scellsG x) 52 (0,0))):w.cell? ⟨b,8,none⟩=some (.int .i64 x.cm):=cell_block h 8 _ rfl
theorem vs9 (h:w.heap[b]?=some (.cells (scellsG x) 52 (0,0))):w.cell? ⟨b,9,none⟩=some (.int .i64 x.most):=cell_block h 9 _ rfl
theorem vs10 (h:w.heap[b]?=some (.cells (scellsG x) 52 (0,0))):w.cell? ⟨b,10,none⟩=some (.int .i64 x.ro):=cell_block h 10 _ rfl
theorem vs11 (h:w.heap[b]?=some (.cells (scellsG x) 52 (0,0))):w.cell? ⟨b,11,none⟩=some (.int .i64 x.le):=cell_block h 11 _ rfl
end
set_option maxRecDepth 100000 in
set_option maxHeartbeats 1000000 in
theorem entry_at (b:Nat) (x:SG) (S:Nat→Prop) (k:Nat) (q:LE×List Int) (w:World) (h:SAt w S b x) (hS:∀ i,S i→i<w.heap.size) (hk:x.dl[k]?=some q) (hl:x.dl.length≤100000) :
  Calls Tryz.prog 18 #[.pointer (some ⟨b,0,none⟩),.int .i64 (k+1)] w fun e w'=>e=.returned (.tuple #[encK q,.bool true])∧Below w.heap.size w w':=by
 have hkl:k<x.dl.length:=(List.getElem?_eq_some_iff.1 hk).1
 obtain ⟨ba,o,hA,hba,c0,c1,c2⟩:=ents_at (h.dl.ents hS) hk
 have d5:=vs5 h.blk
 have d7:=vs7 h.blk
 rw [h.dn,hA] at d7
 have hlt:=block_lt h.blk
 have w1:IntKind.i64.wrap ((k:Int)+1-0-1)=k:=by rw [IntWalk.i64_in _ (by omega)];omega
 have w2:IntKind.i64.wrap ((k:Int)-0)=k:=by rw [IntWalk.i64_in _ (by omega)];omega
 have w3:IntKind.i64.wrap ((k:Int)+1-1)=k:=by rw [IntWalk.i64_in _ (by omega)];omega
 have w4:IntKind.i64.wrap ((k:Int)+1)=(k:Int)+1:=by rw [IntWalk.i64_in _ (by omega)]
 clear h hA hk
 go_enter Tryz.func18,Tryz.ntmps18
 go_wp2
 try simp only [Exit.inBlock,Exit.then]
 refine bodyPost_ret (v:=.tuple #[encK q,.bool true]) ?_ rfl ⟨rfl,(Below.refl w.heap.size w).alloc (Nat.le_refl _) _⟩
 exact results_cell_tmp_row rfl _ _ w.heap.size 67 _ (0,0) _ _ rfl rfl (World.alloc_at w _) Tryz.underlying67 rfl (by kernel_rfl)
set_option maxRecDepth 100000 in
set_option maxHeartbeats 1000000 in
theorem entry_no (b:Nat) (x:SG) (S:Nat→Prop) (k:Nat) (w:World) (h:SAt w S b x) (hk:x.dl.length≤k) (hk2:k≤1000000) :
  Calls Tryz.prog 18 #[.pointer (some ⟨b,0,none⟩),.int .i64 (k+1)] w fun e w'=>e=.returned (.tuple #[.agg #[.int .i64 0,.int .i64 0,.slice none 0 0],.bool false])∧Below w.heap.size w w':=by
 have d5:=vs5 h.blk
 have d7:=vs7 h.blk
 rw [h.dn] at d7
 have hlt:=block_lt h.blk
 have w1:IntKind.i64.wrap ((k:Int)+1-0-1)=k:=by rw [IntWalk.i64_in _ (by omega)];omega
 have w2:IntKind.i64.wrap ((k:Int)-0)=k:=by rw [IntWalk.i64_in _ (by omega)];omega
 have w3:IntKind.i64.wrap ((k:Int)+1-1)=k:=by rw [IntWalk.i64_in _ (by omega)];omega
 have w4:IntKind.i64.wrap ((k:Int)+1)=(k:Int)+1:=by rw [IntWalk.i64_in _ (by omega)]
 have hge:decide ((x.dl.length:Int)≤(k:Int))=true:=decide_eq_true (by omega)
 have hge2:decide (x.dl.length≤k)=true:=decide_eq_true hk
 clear h
 go_enter Tryz.func18,Tryz.ntmps18
 go_wp2
 try simp only [Exit.inBlock,Exit.then]
 refine bodyPost_ret (v:=.tuple #[.agg #[.int .i64 0,.int .i64 0,.slice none 0 0],.bool false]) ?_ rfl ⟨rfl,(Below.refl w.heap.size w).alloc (Nat.le_refl _) _⟩
 exact results_cell_tmp_row rfl _ _ w.heap.size 67 _ (0,0) _ _ rfl rfl (World.alloc_at w _) Tryz.underlying67 rfl (by kernel_rfl)
def lastT (l:List E):Int:=((l[l.length-1]?).map (·.term)).getD 0
set_option maxRecDepth 100000 in
set_option maxHeartbeats 1000000 in
theorem last_at (b:Nat) (x:SG) (S:Nat→Prop) (w:World) (h:SAt w S b x) (hS:∀ i,S i→i<w.heap.size) (hl:x.dl.length≤100000) :
  Calls Tryz.prog 30 #[.pointer (some ⟨b,0,none⟩)] w fun e w'=>e=.returned (.tuple #[.int .i64 x.dl.length,.int .i64 (lastT (x.dl.map con))])∧∃ n,w'=w.drewN n:=by
 have d5:=vs5 h.blk
 have d6:=vs6 h.blk
 have d7:=vs7 h.blk
 rw [h.dn] at d7
 have hlt:=block_lt h.blk
 by_cases h0:x.dl.length=0
 ·have w0:((x.dl.length:Int)==0)=true:=by simpa using h0
  have HE:Hid (x.dl.length=0∧lastT (x.dl.map con)=0):=ld ⟨h0,by rw [List.eq_nil_of_length_eq_zero h0];rfl⟩
  clear h0 h
  go_enter Tryz.func30,Tryz.ntmps30
  go_wp2_with (fail)
  go_quiet (fail)
  go_wp2
  go_ret2
  exact ⟨by rw [HE.out.1,HE.out.2];rfl,_,rfl⟩
 ·have w0:((x.dl.length:Int)==0)=false:=by simpa using h0
  obtain ⟨q,hk⟩:∃ q,x.dl[x.dl.length-1]?=some q:=⟨_,List.getElem?_eq_getElem (by omega)⟩
  obtain ⟨ba,o,hA,hba,c0,c1,c2⟩:=ents_at (h.dl.ents hS) hk
  have HE:Hid (lastT (x.dl.map con)=q.1.term):=ld (by
   unfold lastT
   rw [List.length_map,List.getElem?_map,hk];rfl)
  rw [hA] at d7
  have w1:IntKind.i64.wrap ((x.dl.length:Int)-1)=((x.dl.length-1:Nat):Int):=by rw [IntWalk.i64_in _ (by omega)];omega
  have w2:IntKind.i64.wrap (0+(x.dl.length:Int))=(x.dl.length:Int):=by rw [IntWalk.i64_in _ (by omega)];omega
  have w3:IntKind.i64.wrap ((x.dl.length:Int))=(x.dl.length:Int):=by rw [IntWalk.i64_in _ (by omega)]
  have w4:x.dl.length-1<x.dl.length:=by omega
  clear c0 c2 hk h hA
  generalize x.dl.length-1=j at w1 w4 c1
  go_enter Tryz.func30,Tryz.ntmps30
  go_wp2_with (fail)
  go_quiet (fail)
  go_wp2
  go_ret2
  exact ⟨by rw [HE.out];rfl,_,rfl⟩
section
variable {α β:Type} [DecidableEq α]
theorem find_map_put (l:List (α×β)) (x y:α) (v:β):(l.map (fun p=>if p.1=x then (x,v) else p)).find? (fun p=>p.1=y)=if y=x then (l.find? fun p=>p.1=x).map (fun _=>(x,v)) else l.find? fun p=>p.1=y:=by
 induction l with
 | nil=>simp
 | cons a l ih =>
  rw [List.map_cons,List.find?_cons,ih,List.find?_cons,List.find?_cons]
  by_cases hyx:y=x
  ·subst hyx
   by_cases ha:a.1=y <;> simp [ha]
  ·by_cases ha:a.1=x
   ·have h1:¬ x=y:=fun e=>hyx e.symm
    have h2:¬ a.1=y:=fun e=>hyx (e.symm.trans ha)
    simp [ha,h1,hyx]
   ·simp [ha,hyx]
theorem kget_kput (l:List (α×β)) (x y:α) (v:β):kget (kput l x v) y=if y=x then some v else kget l y:=by
 unfold kput
 by_cases hx:x∈l.map (·.1)
 ·rw [if_pos hx]
  unfold kget
  rw [find_map_put]
  by_cases hyx:y=x
  ·subst hyx
   obtain ⟨p,hp,hpx⟩:=List.mem_map.1 hx
   have:(l.find? fun p=>p.1=y).isSome=true:=List.find?_isSome.2 ⟨p,hp,by simpa using hpx⟩
   obtain ⟨q,hq⟩:=Option.isSome_iff_exists.1 this
   simp [hq]
  ·simp [hyx]
 ·rw [if_neg hx]
  unfold kget
  rw [List.find?_append]
  by_cases hyx:y=x
  ·subst hyx
   have:l.find? (fun p=>p.1=y)=none:=by
    rw [List.find?_eq_none]
    intro p hp
    simp only [decide_eq_true_eq]
    exact fun e=>hx (e▸List.mem_map_of_mem hp)
   simp [this]
  ·have h1:¬ x=y:=fun e=>hyx e.symm
   simp [hyx,h1]
theorem kput_all {P:α×β→Prop} {l:List (α×β)} {x:α} {v:β} (h:∀ p∈l,P p) (hx:P (x,v)):∀ p∈kput l x v,P p:=by
 unfold kput
 split
 ·intro p hp
  obtain ⟨q,hq,rfl⟩:=List.mem_map.1 hp
  split
  ·exact hx
  ·exact h q hq
 ·intro p hp
  rcases List.mem_append.1 hp with hp | hp
  ·exact h p hp
  ·rw [List.mem_singleton] at hp;subst hp;exact hx
end
theorem cells12' {w:World} {b:Nat} {a0 a1 a2 a3 a4 a5 a6 a7 a8 a9 a10 a11:Value} {t:TypeId} (h:w.heap[b]?=some (.cells #[a0,a1,a2,a3,a4,a5,a6,a7,a8,a9,a10,a11] t (0,0))) :
  w.cell? ⟨b,0,none⟩=some a0∧w.cell? ⟨b,1,none⟩=some a1∧w.cell? ⟨b,2,none⟩=some a2∧w.cell? ⟨b,3,none⟩=some a3∧w.cell? ⟨b,4,none⟩=some a4∧w.cell? ⟨b,5,none⟩=some a5∧w.cell? ⟨b,6,none⟩=some a6∧w.cell? ⟨b,7,none⟩=some a7∧w.cell? ⟨b,8,none⟩=some a8∧w.cell? ⟨b,9,none⟩=some a9∧w.cell? ⟨b,10,none⟩=some a10∧w.cell? ⟨b,11,none⟩=some a11 :=
 ⟨cell_block h 0 _ rfl,cell_block h 1 _ rfl,cell_block h 2 _ rfl,cell_block h 3 _ rfl,cell_block h 4 _ rfl,cell_block h 5 _ rfl,cell_block h 6 _ rfl,cell_block h 7 _ rfl,cell_block h 8 _ rfl,cell_block h 9 _ rfl,cell_block h 10 _ rfl,cell_block h 11 _ rfl⟩
theorem zero67:∀ w,(zeroValue 67).run Tryz.prog w=.ok (.agg #[.int .i64 0,.int .i64 0,.slice none 0 0]) w:=fun w=>by kernel_rfl
theorem kget_mem {α β:Type} [DecidableEq α] {l:List (α×β)} {x:α} {v:β} (h:kget l x=some v):(x,v)∈l:=by
 unfold kget at h
 obtain ⟨p,hp,rfl⟩:=Option.map_eq_some_iff.1 h
 have h1:=List.mem_of_find?_eq_some hp
 have h2:=List.find?_some hp
 simp only [decide_eq_true_eq] at h2
 subst h2
 exact h1
theorem ents_one' {w:World} {b:Nat} {q:LE×List Int} {S:Nat→Prop} {B:Nat} (hb:w.heap[b]?=some (.cells #[.int .i64 q.1.idx,.int .i64 q.1.term,.slice q.1.A q.1.n q.1.c] 67 (0,0))) (hd:RowS encB 1 w S q.1.A q.2) (hS:∀ i,S i→i<B) (hB:b<B) (hn:q.1.n=q.2.length) (hl:q.2.length≤140737488351232) :
  Ents w B (some ⟨b,0,none⟩) [q]:=by
 refine ⟨.inr ⟨b,0,rfl,hB,fun k x hx j v hv=>?_⟩,fun p hp=>?_⟩
 ·have hk:k=0:=by have:=(List.getElem?_eq_some_iff.1 hx).1;simp at this;exact this
  subst hk
  simp at hx;subst hx
  match j,hv with
  | 0,hv=>simp [encLE] at hv;subst hv;exact cell_block hb 0 _ rfl
  | 1,hv=>simp [encLE] at hv;subst hv;exact cell_block hb 1 _ rfl
  | 2,hv=>simp [encLE] at hv;subst hv;exact cell_block hb 2 _ rfl
 ·simp only [List.mem_singleton] at hp
  subst hp
  exact ⟨hd.row hS,hn,hl⟩
theorem cells3 {w:World} {b:Nat} {a0 a1 a2:Value} {t:TypeId} (h:w.heap[b]?=some (.cells #[a0,a1,a2] t (0,0))):w.cell? ⟨b,0,none⟩=some a0∧w.cell? ⟨b,1,none⟩=some a1∧w.cell? ⟨b,2,none⟩=some a2 :=
 ⟨cell_block h 0 _ rfl,cell_block h 1 _ rfl,cell_block h 2 _ rfl⟩
theorem alloc2_0 (w:World) (o p:Obj):((w.alloc o).alloc p).drew.heap[w.heap.size]?=some o:=block_alloc (World.alloc_at w o) p
theorem alloc2_1 (w:World) (o p:Obj):((w.alloc o).alloc p).drew.heap[w.heap.size+1]?=some p:=by
 have:=World.alloc_at (w.alloc o) p
 rw [World.alloc_size] at this
 exact this
theorem grown_chg {w w':World} {b:Nat} (h:w.grownBy w' (some b)):Chg (·=b) w w':=⟨h.os,h.tape,h.output,h.size,fun i hi hn=>h.block i hi (fun e=>hn (by injection e))⟩
def setS (sg:Nat→SG) (j:Nat) (x:SG):Nat→SG:=fun k=>if k=j then x else sg k
section
variable {w w':World} {S S':Nat→Prop} {bw:Nat} {bs:List Nat} {g:VG} {sg:Nat→SG} {net:List (MR×List (LE×List Int))} {x:SG}
structure VNe (g:VG) (bw:Nat) (bs:List Nat):Prop where
 s:bw ∉ bs
 mL:g.mL≠bw∧g.mL ∉ bs
 mV:g.mV≠bw∧g.mV ∉ bs
 mK:g.mK≠bw∧g.mK ∉ bs
 mT:g.mT≠bw∧g.mT ∉ bs
 nt:∀ k,(Value.slice g.nA g.nn g.nc).ownBlock=some k→k≠bw∧k ∉ bs∧k≠g.mL∧k≠g.mV∧k≠g.mK∧k≠g.mT
 ap:(g.mL≠g.mV∧g.mL≠g.mK∧g.mL≠g.mT)∧(g.mV≠g.mK∧g.mV≠g.mT)∧g.mK≠g.mT
theorem VAt.blkS (h:VAt w S bw bs g sg net) {b:Nat} (hb:b∈bs):∃ x,w.heap[b]?=some (.cells (scellsG x) 52 (0,0)):=by
 obtain ⟨k,hk⟩:=List.getElem?_of_mem hb
 exact ⟨_,(h.seat k b hk).1.blk⟩
theorem VAt.vne (h:VAt w S bw bs g sg net):VNe g bw bs:=by
 have cs:∀ {b:Nat} {cur:Array Value} {t:TypeId},w.heap[b]?=some (.cells cur t (0,0))→t≠52→b ∉ bs:=fun h1 h2 hb=>by
  obtain ⟨x,hx⟩:=h.blkS hb
  exact h2 (ne_typed h1 hx)
 refine ⟨cs h.wb (by decide),⟨h.led.ne h.wb,fun hb=>?_⟩,⟨h.voted.ne h.wb,fun hb=>?_⟩,⟨h.known.ne h.wb,fun hb=>?_⟩,⟨h.tm.ne h.wb,fun hb=>?_⟩,fun k hk=>?_,?_⟩
 ·obtain ⟨x,hx⟩:=h.blkS hb;exact h.led.ne hx rfl
 ·obtain ⟨x,hx⟩:=h.blkS hb;exact h.voted.ne hx rfl
 ·obtain ⟨x,hx⟩:=h.blkS hb;exact h.known.ne hx rfl
 ·obtain ⟨x,hx⟩:=h.blkS hb;exact h.tm.ne hx rfl
 ·obtain ⟨cur,hc⟩:=h.netO.typed k hk
  refine ⟨?_,cs hc (by decide),fun e=>h.led.ne hc e.symm,fun e=>h.voted.ne hc e.symm,fun e=>h.known.ne hc e.symm,fun e=>h.tm.ne hc e.symm⟩
  rintro rfl
  exact absurd (ne_typed hc h.wb) (by decide)
 ·have ha:=h.apart
  simp only [List.nodup_cons,List.mem_cons,List.not_mem_nil,or_false,not_or] at ha
  exact ⟨ha.1,ha.2.1,ha.2.2.1⟩
theorem VAt.reseat (h:VAt w S bw bs g sg net) {i b:Nat} (hi:bs[i]?=some b) (hc:Chg (·=b) w w') {x:SG} (hb:w'.heap[b]?=some (.cells (scellsG x) 52 (0,0))) (hid:x.id=((i+1:Nat):Int)) (hdl:EntsS w S x.dA x.dl) (hdn:x.dn=x.dl.length) (hdc:x.dn≤x.dc):VAt w' S bw bs g (setS sg (i+1) x) net:=by
 have hbm:b∈bs:=List.mem_of_getElem? hi
 have hs:∀ i,S i→w'.heap[i]?=w.heap[i]?:=fun i hi=>hc.keep (h.bd i hi) fun e=>h.st i hi (e▸.inr (.inl hbm))
 have n:=h.vne
 refine ⟨(hc.keep (block_lt h.wb) (fun e=>n.s (e▸hbm))).trans h.wb,fun i hi=>Nat.lt_of_lt_of_le (h.bd i hi) hc.size,h.st,h.peers.keep hs,h.seats.keep hs,h.bl,h.nd,fun j c hj=>?_,
  h.led.same (hc.keep h.led.lt fun e=>n.mL.2 (e▸hbm)),h.voted.same (hc.keep h.voted.lt fun e=>n.mV.2 (e▸hbm)),h.known.same (hc.keep h.known.lt fun e=>n.mK.2 (e▸hbm)),h.tm.same (hc.keep h.tm.lt fun e=>n.mT.2 (e▸hbm)),h.apart,fun p hp=>⟨(h.kb p hp).1.keep hs,(h.kb p hp).2⟩,
  h.netO.same fun k hk=>hc.keep (h.netO.lt k hk) fun e=>(n.nt k hk).2.1 (e▸hbm),fun m hm=>⟨(h.netE m hm).1.keep hs,(h.netE m hm).2⟩⟩
 by_cases hji:j=i
 ·subst hji
  rw [hi] at hj
  injection hj with hj
  subst hj
  unfold setS
  rw [if_pos rfl]
  exact ⟨⟨hb,hdl.keep hs,hdn,hdc⟩,hid⟩
 ·have hcb:c≠b:=by
   rintro rfl
   exact hji ((List.getElem?_inj (List.getElem?_eq_some_iff.1 hj).1 h.nd).1 (hj.trans hi.symm))
  unfold setS
  rw [if_neg (by omega)]
  exact ⟨(h.seat j c hj).1.keep (hc.keep (block_lt (h.seat j c hj).1.blk) hcb) hs,(h.seat j c hj).2⟩
theorem VAt.reled (h:VAt w S bw bs g sg net) (hc:Chg (·=g.mL) w w') {l:List (Int×Int)} (hl:MI w' g.mL l):VAt w' S bw bs { g with led:=l } sg net:=by
 have hs:∀ i,S i→w'.heap[i]?=w.heap[i]?:=fun i hi=>hc.keep (h.bd i hi) fun e=>h.st i hi (e▸.inr (.inr (.inl rfl)))
 have n:=h.vne
 exact ⟨(hc.keep (block_lt h.wb) (fun e=>n.mL.1 e.symm)).trans h.wb,fun i hi=>Nat.lt_of_lt_of_le (h.bd i hi) hc.size,h.st,h.peers.keep hs,h.seats.keep hs,h.bl,h.nd,fun j c hj=>⟨(h.seat j c hj).1.keep (hc.keep (block_lt (h.seat j c hj).1.blk) (fun e=>n.mL.2 (e▸List.mem_of_getElem? hj))) hs,(h.seat j c hj).2⟩,
  hl,h.voted.same (hc.keep h.voted.lt (fun e=>n.ap.1.1 e.symm)),h.known.same (hc.keep h.known.lt (fun e=>n.ap.1.2.1 e.symm)),h.tm.same (hc.keep h.tm.lt (fun e=>n.ap.1.2.2 e.symm)),h.apart,fun p hp=>⟨(h.kb p hp).1.keep hs,(h.kb p hp).2⟩,h.netO.same fun k hk=>hc.keep (h.netO.lt k hk) (fun e=>(n.nt k hk).2.2.1 e),fun m hm=>⟨(h.netE m hm).1.keep hs,(h.netE m hm).2⟩⟩
theorem VAt.revoted (h:VAt w S bw bs g sg net) (hc:Chg (·=g.mV) w w') {l:List ((Int×Int)×Int)} (hl:MapG Tryz.prog 150 encV (Value.int .i64) w' g.mV l):VAt w' S bw bs { g with voted:=l } sg net:=by
 have hs:∀ i,S i→w'.heap[i]?=w.heap[i]?:=fun i hi=>hc.keep (h.bd i hi) fun e=>h.st i hi (e▸.inr (.inr (.inr (.inl rfl))))
 have n:=h.vne
 exact ⟨(hc.keep (block_lt h.wb) (fun e=>n.mV.1 e.symm)).trans h.wb,fun i hi=>Nat.lt_of_lt_of_le (h.bd i hi) hc.size,h.st,h.peers.keep hs,h.seats.keep hs,h.bl,h.nd,fun j c hj=>⟨(h.seat j c hj).1.keep (hc.keep (block_lt (h.seat j c hj).1.blk) (fun e=>n.mV.2 (e▸List.mem_of_getElem? hj))) hs,(h.seat j c hj).2⟩,
  h.led.same (hc.keep h.led.lt (fun e=>n.ap.1.1 e)),hl,h.known.same (hc.keep h.known.lt (fun e=>n.ap.2.1.1 e.symm)),h.tm.same (hc.keep h.tm.lt (fun e=>n.ap.2.1.2 e.symm)),h.apart,fun p hp=>⟨(h.kb p hp).1.keep hs,(h.kb p hp).2⟩,h.netO.same fun k hk=>hc.keep (h.netO.lt k hk) (fun e=>(n.nt k hk).2.2.2.1 e),fun m hm=>⟨(h.netE m hm).1.keep hs,(h.netE m hm).2⟩⟩
theorem VAt.reknown (h:VAt w S bw bs g sg net) (hc:Chg (·=g.mK) w w') {l:List (Int×(LE×List Int))} (hl:MapG Tryz.prog 3 (Value.int .i64) encK w' g.mK l) (hkb:∀ p∈l,RowS encB 1 w S p.2.1.A p.2.2∧p.2.1.n=p.2.2.length∧p.2.2.length≤140737488351232):VAt w' S bw bs { g with known:=l } sg net:=by
 have hs:∀ i,S i→w'.heap[i]?=w.heap[i]?:=fun i hi=>hc.keep (h.bd i hi) fun e=>h.st i hi (e▸.inr (.inr (.inr (.inr (.inl rfl)))))
 have n:=h.vne
 exact ⟨(hc.keep (block_lt h.wb) (fun e=>n.mK.1 e.symm)).trans h.wb,fun i hi=>Nat.lt_of_lt_of_le (h.bd i hi) hc.size,h.st,h.peers.keep hs,h.seats.keep hs,h.bl,h.nd,fun j c hj=>⟨(h.seat j c hj).1.keep (hc.keep (block_lt (h.seat j c hj).1.blk) (fun e=>n.mK.2 (e▸List.mem_of_getElem? hj))) hs,(h.seat j c hj).2⟩,
  h.led.same (hc.keep h.led.lt (fun e=>n.ap.1.2.1 e)),h.voted.same (hc.keep h.voted.lt (fun e=>n.ap.2.1.1 e)),hl,h.tm.same (hc.keep h.tm.lt (fun e=>n.ap.2.2 e.symm)),h.apart,fun p hp=>⟨(hkb p hp).1.keep hs,(hkb p hp).2⟩,h.netO.same fun k hk=>hc.keep (h.netO.lt k hk) (fun e=>(n.nt k hk).2.2.2.2.1 e),fun m hm=>⟨(h.netE m hm).1.keep hs,(h.netE m hm).2⟩⟩
theorem VAt.retm (h:VAt w S bw bs g sg net) (hc:Chg (·=g.mT) w w') {l:List (Int×Int)} (hl:MI w' g.mT l):VAt w' S bw bs { g with tm:=l } sg net:=by
 have hs:∀ i,S i→w'.heap[i]?=w.heap[i]?:=fun i hi=>hc.keep (h.bd i hi) fun e=>h.st i hi (e▸.inr (.inr (.inr (.inr (.inr (.inl rfl))))))
 have n:=h.vne
 exact ⟨(hc.keep (block_lt h.wb) (fun e=>n.mT.1 e.symm)).trans h.wb,fun i hi=>Nat.lt_of_lt_of_le (h.bd i hi) hc.size,h.st,h.peers.keep hs,h.seats.keep hs,h.bl,h.nd,fun j c hj=>⟨(h.seat j c hj).1.keep (hc.keep (block_lt (h.seat j c hj).1.blk) (fun e=>n.mT.2 (e▸List.mem_of_getElem? hj))) hs,(h.seat j c hj).2⟩,
  h.led.same (hc.keep h.led.lt (fun e=>n.ap.1.2.2 e)),h.voted.same (hc.keep h.voted.lt (fun e=>n.ap.2.1.2 e)),h.known.same (hc.keep h.known.lt (fun e=>n.ap.2.2 e)),hl,h.apart,fun p hp=>⟨(h.kb p hp).1.keep hs,(h.kb p hp).2⟩,h.netO.same fun k hk=>hc.keep (h.netO.lt k hk) (fun e=>(n.nt k hk).2.2.2.2.2 e),fun m hm=>⟨(h.netE m hm).1.keep hs,(h.netE m hm).2⟩⟩
theorem VAt.rehigh (h:VAt w S bw bs g sg net) (hc:Chg (·=bw) w w') {z:Int} (hb:w'.heap[bw]?=some (.cells (wcellsG { g with high:=z }) 43 (0,0))):VAt w' S bw bs { g with high:=z } sg net:=by
 have hs:∀ i,S i→w'.heap[i]?=w.heap[i]?:=fun i hi=>hc.keep (h.bd i hi) fun e=>h.st i hi (e▸.inl rfl)
 have n:=h.vne
 exact ⟨hb,fun i hi=>Nat.lt_of_lt_of_le (h.bd i hi) hc.size,h.st,h.peers.keep hs,h.seats.keep hs,h.bl,h.nd,fun j c hj=>⟨(h.seat j c hj).1.keep (hc.keep (block_lt (h.seat j c hj).1.blk) (fun e=>n.s (e▸List.mem_of_getElem? hj))) hs,(h.seat j c hj).2⟩,
  h.led.same (hc.keep h.led.lt (fun e=>n.mL.1 e)),h.voted.same (hc.keep h.voted.lt (fun e=>n.mV.1 e)),h.known.same (hc.keep h.known.lt (fun e=>n.mK.1 e)),h.tm.same (hc.keep h.tm.lt (fun e=>n.mT.1 e)),h.apart,fun p hp=>⟨(h.kb p hp).1.keep hs,(h.kb p hp).2⟩,h.netO.same fun k hk=>hc.keep (h.netO.lt k hk) (fun e=>(n.nt k hk).1 e),fun m hm=>⟨(h.netE m hm).1.keep hs,(h.netE m hm).2⟩⟩
theorem VAt.recalm (h:VAt w S bw bs g sg net) (hc:Chg (·=bw) w w') {z:Bool} (hb:w'.heap[bw]?=some (.cells (wcellsG { g with calm:=z }) 43 (0,0))):VAt w' S bw bs { g with calm:=z } sg net:=by
 have hs:∀ i,S i→w'.heap[i]?=w.heap[i]?:=fun i hi=>hc.keep (h.bd i hi) fun e=>h.st i hi (e▸.inl rfl)
 have n:=h.vne
 exact ⟨hb,fun i hi=>Nat.lt_of_lt_of_le (h.bd i hi) hc.size,h.st,h.peers.keep hs,h.seats.keep hs,h.bl,h.nd,fun j c hj=>⟨(h.seat j c hj).1.keep (hc.keep (block_lt (h.seat j c hj).1.blk) (fun e=>n.s (e▸List.mem_of_getElem? hj))) hs,(h.seat j c hj).2⟩,
  h.led.same (hc.keep h.led.lt (fun e=>n.mL.1 e)),h.voted.same (hc.keep h.voted.lt (fun e=>n.mV.1 e)),h.known.same (hc.keep h.known.lt (fun e=>n.mK.1 e)),h.tm.same (hc.keep h.tm.lt (fun e=>n.mT.1 e)),h.apart,fun p hp=>⟨(h.kb p hp).1.keep hs,(h.kb p hp).2⟩,h.netO.same fun k hk=>hc.keep (h.netO.lt k hk) (fun e=>(n.nt k hk).1 e),fun m hm=>⟨(h.netE m hm).1.keep hs,(h.netE m hm).2⟩⟩
theorem VAt.renet (h:VAt w S bw bs g sg net) (hc:Chg (·=bw) w w') {A:Option Addr} {m c:Nat} {net':List (MR×List (LE×List Int))} (hb:w'.heap[bw]?=some (.cells (wcellsG { g with nA:=A,nn:=m,nc:=c }) 43 (0,0)))
  (hO:OwnO encM 10 59 w (.slice A m c) (net'.map (·.1))) (hE:∀ m∈net',EntsS w S m.1.eA m.2∧m.1.en=m.2.length∧m.1.en≤m.1.ec) (hn:∀ k,(Value.slice A m c).ownBlock=some k→¬ S k):VAt w' S bw bs { g with nA:=A,nn:=m,nc:=c } sg net':=by
 have hs:∀ i,S i→w'.heap[i]?=w.heap[i]?:=fun i hi=>hc.keep (h.bd i hi) fun e=>h.st i hi (e▸.inl rfl)
 have n:=h.vne
 refine ⟨hb,fun i hi=>Nat.lt_of_lt_of_le (h.bd i hi) hc.size,fun i hi hm=>?_,h.peers.keep hs,h.seats.keep hs,h.bl,h.nd,fun j c hj=>⟨(h.seat j c hj).1.keep (hc.keep (block_lt (h.seat j c hj).1.blk) (fun e=>n.s (e▸List.mem_of_getElem? hj))) hs,(h.seat j c hj).2⟩,
  h.led.same (hc.keep h.led.lt (fun e=>n.mL.1 e)),h.voted.same (hc.keep h.voted.lt (fun e=>n.mV.1 e)),h.known.same (hc.keep h.known.lt (fun e=>n.mK.1 e)),h.tm.same (hc.keep h.tm.lt (fun e=>n.mT.1 e)),h.apart,fun p hp=>⟨(h.kb p hp).1.keep hs,(h.kb p hp).2⟩,hO.same fun k hk=>hc.keep (hO.lt k hk) ?_,fun m hm=>⟨(hE m hm).1.keep hs,(hE m hm).2⟩⟩
 ·rcases hm with hm | hm | hm | hm | hm | hm | hm
  ·exact h.st i hi (.inl hm)
  ·exact h.st i hi (.inr (.inl hm))
  ·exact h.st i hi (.inr (.inr (.inl hm)))
  ·exact h.st i hi (.inr (.inr (.inr (.inl hm))))
  ·exact h.st i hi (.inr (.inr (.inr (.inr (.inl hm)))))
  ·exact h.st i hi (.inr (.inr (.inr (.inr (.inr (.inl hm))))))
  ·exact hn i hm hi
 ·obtain ⟨cur,hcur⟩:=hO.typed k hk
  rintro rfl
  exact absurd (ne_typed hcur h.wb) (by decide)
end
end Go.Proofs.YtocogcgnahbpkaaGreat
