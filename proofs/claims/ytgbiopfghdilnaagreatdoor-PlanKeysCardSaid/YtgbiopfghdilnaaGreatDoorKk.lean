/-
Texts of this proof,one behind the other. No conditions.
-/
import Derived.Test.YtgbiopfghdilnaaGreatDoorKcb
import Derived.Laws.IdiomCopy
import Derived.Test.YtgbiopfghdilnaaGreatDoorChecked
import Derived.Shelf.RegionOpenPlain
import Derived.WalkKit
import Derived.Deep.LoopGhost
import Derived.Deep.RegionLaw
import Derived.Lib.Walk
import Derived.Sort.WalkB12
import Derived.Test.YtgbiopfghdilnaaGreatDoorKd
import Derived.Test.YtgbiopfghdilnaaGreatDoorKj
open Go.Proofs.YtgbiopfghdilnaaGreatDoor.V renaming undef→Ka
open List renaming getD_eq_getElem?_getD→Kb,getElem?_append_left→Kd,mem_of_find?_eq_some→Ke,getElem?_eq_getElem→Kf,getElem?_append_right→Kh,mem_append→Ki,take_succ_eq_append_getElem→Kj,getElem_mem→Kk,take_of_length_le→Ko,mem_of_mem_take→Kp,take_append_of_le_length→Kq,find?_some→Ks,getElem?_drop→Kt,length_append→Ku,append_assoc→Kw,mem_of_mem_drop→KE,getElem?_range→KF,getElem?_take→KG,find?_eq_none→KH,getElem?_map→KJ,length_take→KL,filter_cons→KO,nil_append→KP,range→KU
open Nat renaming mul_le_mul_right→Kc,add_mul→Kv,reduceAdd→Kx,reduceSub→Ky,reduceLeDiff→Kz,reduceEqDiff→KA,lt_or_ge→KB,reduceLT→KI,le_refl→KM,zero_le→KN,zero_mul→KQ,zero_add→KR,mul_one→KS
open Array renaming getD_eq_getD_getElem?→Kg
open Go.Builtin renaming append_→Km
open Go renaming undef→KC
open Int renaming reduceToNat→KD
open Bool renaming and_eq_true→KK
set_option linter.unusedSimpArgs false
set_option linter.unusedVariables false
set_option linter.unusedSectionVars false
set_option maxHeartbeats 8000000
open Nat renaming reduceAdd→jA,reduceSub→jB,reduceLT→jC,reduceLeDiff→jD,reduceEqDiff→jE
open Int renaming reduceToNat→jF,toNat_natCast→jG,natCast_add→jH,natCast_one→jI,natCast_zero→jJ
open List renaming length_map→jK,length_cons→jL,length_nil→jM,replicate_succ→jN,replicate_zero→jO,cons_append→jP,nil_append→jQ
namespace Go.Proofs.YtgbiopfghdilnaaGreatDoor
open Go.RowKit
variable{P:Program}{K:Ker}{h:Hp}{k:Sh}
def zY(es:List V)(o:Nat)(ys:List V):List V:=es.take o++ys++es.drop (o+ys.length)
theorem og{es ys:List V}{o:Nat}(hle:o+ys.length≤es.length):(zY es o ys).length=es.length:=by simp[zY];omega
theorem At{es ys:List V}{o:Nat}(hle:o+ys.length≤es.length)(q:Nat):(zY es o ys).getD q Ka=if q<o then es.getD q Ka else if q<o+ys.length then ys.getD (q-o) Ka else es.getD q Ka:=by
 simp only[zY,Kb,Kw];have htk:(es.take o).length=o:=by simp;omega
 by_cases e1:q<o
 ·rw[if_pos e1,Kd (by rw[htk];exact e1),KG,if_pos e1]
 rw[if_neg e1,Kh (by rw[htk];omega),htk];by_cases e2:q<o+ys.length
 ·rw[if_pos e2,Kd or]
 rw[if_neg e2,Kh or,Kt];have:o+ys.length+(q-o-ys.length)=q:=or;rw[this]
def nN(K:Ker)(k:Sh)(ys:List V)(cs:List Value):Prop:=cs.length=ys.length*k.size∧(∀y∈ys,y.fits k=true)∧∀i,i<ys.length→∀j,j<k.size→VR K ((ys.getD i Ka).cell j) (cs.getD (i*k.size+j) KC)
theorem nN.one{ys:List V}{cs:List Value}(c:nN K k ys cs):∀u∈cs,u.oneCell'=true:=by
 obtain⟨hcl,hfy,hv⟩:=c;intro u hu;obtain⟨q,hq,rfl⟩:=List.getElem_of_mem hu;rw[hcl] at hq;obtain⟨d1,d2,d3⟩:=pP hq;have h1:=hv _ d1 _ d2;rw[d3,Kb (l:=cs),Kf (by rw[hcl];exact hq)] at h1;have hm:ys.getD (q / k.size) Ka∈ys:=by rw[Kb,Kf d1];exact Kk _
 have h2:=hfy _ hm;refine VR.aBP h1 ?_;cases k with
 |leaf=>
  have hz:q % Sh.leaf.size=0:=by simp[Sh.size,Nat.mod_one]
  rw[hz];rw[V.fits] at h2;generalize ys.getD (q / Sh.leaf.size) Ka=y at h2;cases y<;>first|rfl|(simp[V.aAE] at h2)
 |agg n=>
  generalize ys.getD (q / (Sh.agg n).size) Ka=y at h2;cases y with
  |agg cs2=>
   simp only[V.fits,KK,decide_eq_true_eq,List.all_eq_true] at h2;show(cs2.getD _ Ka).aAE=true;have hlt:q % (Sh.agg n).size<cs2.length:=by rw[h2.1];exact d2
   rw[Kb,Kf hlt];exact h2.2 _ (Kk _)
  |_=>simp[V.fits] at h2
theorem nN.mono{K K':Ker}(hle:K.le K'){ys:List V}{cs:List Value}(c:nN K k ys cs):nN K' k ys cs:=⟨c.1,c.2.1,fun i hi j hj=>(c.2.2 i hi j hj).mono hle⟩
theorem oe(hr:Rel K h){n o:Nat}{es ys:List V}(hn:h n=some (.arr k es))(hle:o+ys.length≤es.length){cs:List Value}(c:nN K k ys cs):
 ∃K',(storeCells ⟨K.mu n,o*k.size,none⟩ cs 0).run P K.w= .ok () K'.w∧K.le K'∧K'.live=K.live∧K'.mu=K.mu∧(∀b,K'.w.shape? b=K.w.shape? b)∧Rel K' (h.set n (.arr k (zY es o ys))):=by
 have aDd:=c.one;obtain⟨hcl,hfy,hv⟩:=c;have hbr:=hr.blk n _ hn;cases hbr with
 |arr _ _ c T hh hcs aAr aAK hvs=>
  have aCJ:o*k.size+ys.length*k.size≤es.length*k.size:=by rw[←Kv];exact Kc _ hle
  have hst:=run_storeCells_at P (K.mu n) (o*k.size) T cs 0 c K.w hh (by rw[hcl];omega) aDd;simp only[Nat.add_zero,hcl] at hst;generalize hc':(c.toList.take (o*k.size)++cs++c.toList.drop (o*k.size+ys.length*k.size)).toArray=c' at hst;have aA6:c'.size=c.size:=by rw[←hc'];simp only[List.size_toArray,Ku,KL,List.length_drop,Array.length_toList,hcl];omega
  have aAn:=K.aBK (K.mu n) c' c T hh aA6 (hr.base n _ hn) (fun o ho=>by rw[aAr] at ho;omega);have hlen:=og hle;refine⟨K.row (K.mu n) c',hst,aAn,rfl,rfl,fun b=>rQ K.w _ c' c T (0,0) hh aA6 b,?_⟩;refine hr.row hn c' c T hh aA6 (fun o ho=>by rw[aAr] at ho;omega) (.arr k _ c' T ?_ (by rw[hlen,aA6];exact hcs) aAr ?_ ?_)
  ·show(K.w.setRow (K.mu n) c').heap[K.mu n]?=_;exact setRow_heap K.w (K.mu n) c c' T (0,0) hh
  ·intro x hx;rcases Ki.1 hx with hx|hx
   ·rcases Ki.1 hx with hx|hx
    ·exact aAK x (Kp hx)
    exact hfy x hx
   exact aAK x (KE hx)
  intro q hq j hj;rw[hlen] at hq;have aDh:=cB hj hq;have aBF:c'[q*k.size+j]?=if q<o then c[q*k.size+j]? else if q<o+ys.length then cs[(q-o)*k.size+j]? else c[q*k.size+j]?:=by
   rw[←hc'];simp only[List.getElem?_toArray,Kw];by_cases e1:q<o
   ·have h1:=cB hj e1;rw[if_pos e1,Kd (by simp;omega),KG,if_pos h1];simp
   rw[if_neg e1];have h1:o*k.size≤q*k.size:=Kc _ or;have aMH:q*k.size-o*k.size=(q-o)*k.size:=(Nat.sub_mul _ _ _).symm;have htk:(c.toList.take (o*k.size)).length=o*k.size:=by simp;omega
   rw[Kh (by rw[htk];omega),htk];by_cases e2:q<o+ys.length
   ·have h2:=cB (k:=k.size) (i:=q-o) (n:=ys.length) hj or;rw[if_pos e2,Kd (by rw[hcl];omega)];have:q*k.size+j-o*k.size=(q-o)*k.size+j:=or;rw[this]
   have h2:(o+ys.length)*k.size≤q*k.size:=Kc _ or;rw[Kv] at h2;rw[if_neg e2,Kh (by rw[hcl];omega),hcl,Kt];have:o*k.size+ys.length*k.size+(q*k.size+j-o*k.size-ys.length*k.size)=q*k.size+j:=or;rw[this];simp
  rw[At hle,Kg,aBF];by_cases e1:q<o
  ·rw[if_pos e1,if_pos e1,←Kg];exact(hvs q hq j hj).mono aAn
  rw[if_neg e1,if_neg e1];by_cases e2:q<o+ys.length
  ·rw[if_pos e2,if_pos e2,←Kb];exact(hv _ or j hj).mono aAn
  rw[if_neg e2,if_neg e2,←Kg];exact(hvs q hq j hj).mono aAn
theorem xr(hr:Rel K h){n o m:Nat}{es:List V}(hn:h n=some (.arr k es))(hle:o+m≤es.length):
 ∃cs,nN K k ((es.drop o).take m) cs∧cs.length=m*k.size∧∀j u,cs[j]?=some u→K.w.cell? ⟨K.mu n,o*k.size+j,none⟩=some u:=by
 have hbr:=hr.blk n _ hn;cases hbr with
 |arr _ _ c T hh hcs aAr aAK hvs=>
  have aCJ:o*k.size+m*k.size≤es.length*k.size:=by rw[←Kv];exact Kc _ hle
  have hml:((es.drop o).take m).length=m:=by simp;omega
  refine⟨(KU (m*k.size)).map fun j=>c.getD (o*k.size+j) KC,⟨by rw[hml];simp,fun y hy=>aAK y (KE (Kp hy)),fun i hi j hj=>?_⟩,Zm,fun j u hu=>?_⟩
  ·rw[hml] at hi;have h1:=cB hj hi;have h2:=hvs (o+i) or j hj;have e1:((es.drop o).take m).getD i Ka=es.getD (o+i) Ka:=by rw[Kb,Kb,List.getElem?_take_of_lt hi,Kt]
   have e2:((KU (m*k.size)).map fun j=>c.getD (o*k.size+j) KC).getD (i*k.size+j) KC=c.getD ((o+i)*k.size+j) KC:=by
    rw[Kb,KJ,KF h1,Kv,Nat.add_assoc];rfl
   rw[e1,e2];exact h2
  rw[KJ] at hu;have hj:j<m*k.size:=by
   rcases KB j (m*k.size) with h|h
   ·exact h
   rw[List.getElem?_eq_none (by simpa using h)] at hu;cases hu
  rw[KF hj] at hu;have hu:c.getD (o*k.size+j) KC=u:=by simpa using hu
  simp only[World.cell?,hh,Option.isSome_none,Bool.false_eq_true,if_false];rw[←hu,Kg,Array.getElem?_eq_getElem or];rfl
theorem gu(w:World)(t t' ty e e':TypeId)(i:TypeInfo)(b o n cap:Nat)(a:Addr)(m c:Nat)(cs:List Value){w':World}
 (hu:P.underlying t=some (.slice e)) (hu':P.underlying t'=some (.slice e')) (hi:P.info? e=some i) (hn:cs.length=m*i.size) (aBA:n+m≤cap)
 (aS3:∀j v,cs[j]?=some v→w.cell? (a.add j)=some v) (hst:(storeCells ⟨b,o+n*i.size,none⟩ cs 0).run P w= .ok () w'):
 (Km #[t,t'] ty #[.slice (some ⟨b,o,none⟩) n cap, .slice (some a) m c]).run P w= .ok (.slice (some ⟨b,o,none⟩) (n+m) cap) w':=by
 have hl:=run_firstCells_some (P:=P) w i.size m a m c cs hn aS3;simp[Km,run_underlying hu,run_underlying hu',sizeOf,typeInfo,hi,Builtin.lenOf,aBA,hl,Addr.add_lit,hst]
theorem gn{ops:Array Oper}{o:Oper}{a:Act}{w:World}{K:Act→World→Prop}{Q:Exit→Act→World→Prop}{E:Prop}(bi:Builtin)
 (hg:o.guard=none) (xs:Array Operand) (ts:Array TypeId) (hop:o.op=Op.call {callee:=Callee.builtin bi,args:=xs,argTypes:=ts})
 (F:Sem Value) (hF:∀cs,builtin bi ts o.type cs (xs.map a.eval)=(do pure (.value (←F)))) {v':Value} {w':World} (hr:F.run P w= .ok v' w') (hK:K (a.put o.dst v') w'):
 if Region.wanted o (yielded ops a.tmps)=true then Oper.wp P o a w K Q else E:=by
 have hw:Region.wanted o (yielded ops a.tmps)=true:=by simp[Region.wanted,hg]
 rw[if_pos hw];unfold Oper.wp;simp[execOp,hop,resolve,invoke,hF,hr,Result.andThen];exact hK
end Go.Proofs.YtgbiopfghdilnaaGreatDoor
namespace Go.Proofs.YtgbiopfghdilnaaGreatDoor
open Go.RowKit Go.Shelf Go.Lib Go.Sort
theorem Ck:∃i,Tryz.prog.info? 3=some i∧i.size=1∧i.zero=some (.int .i64 0):=by
 have h1:(Tryz.prog.info? 3).map (·.size)=some 1:=Zz;have h2:(Tryz.prog.info? 3).bind (·.zero)=some (.int .i64 0):=Zz;obtain⟨i,hi,h3⟩:=Option.map_eq_some_iff.1 h1;rw[hi] at h2;exact⟨i,hi,h3,h2⟩
def zin:V:= .int .i64 0
theorem BC(K:Ker):VR K zin (.int .i64 0):= .int _ _
set_option maxHeartbeats 4000000 in
set_option maxRecDepth 1000000 in
theorem xe(b L cap i j:Nat)(hij:j=i+1)(hj:j≤L)(hcap:L≤cap)(w w1 w2:World)
 (hap:∀(ty:TypeId) (A:Addr) (c:Nat),A=⟨b,j,none⟩∨L=j→(Km #[37,37] ty #[.slice (some ⟨b,0,none⟩) i cap, .slice (some A) (L-j) c]).run Tryz.prog w.drew= .ok (.slice (some ⟨b,0,none⟩) (i+(L-j)) cap) w1)
 (hcl:∀ty,(Builtin.clear_ #[37] ty #[.slice (some ⟨b,i+(L-j),none⟩) (L-(i+(L-j))) (cap-(i+(L-j)))]).run Tryz.prog w1= .ok (.tuple #[]) w2):
 Calls Tryz.prog 85 #[.slice (some ⟨b,0,none⟩) L cap, .int .i64 i, .int .i64 j] w fun e w'=>e= .returned (.slice (some ⟨b,0,none⟩) (i+(L-j)) cap)∧w'=w2:=by
 have hne:¬(i:Int)=(j:Int):=or;have hic:i≤cap:=or;have hjc:j≤cap:=or;obtain⟨A,hA,hap⟩:∃A:Addr,(if cap=j then some (⟨b,0,none⟩:Addr) else some ⟨b,j,none⟩)=some A∧Hid (∀(ty:TypeId) (c:Nat),(Km #[37,37] ty #[.slice (some ⟨b,0,none⟩) i cap, .slice (some A) (L-j) c]).run Tryz.prog w.drew= .ok (.slice (some ⟨b,0,none⟩) (i+(L-j)) cap) w1):=by
  by_cases h:cap=j
  ·exact⟨⟨b,0,none⟩,by simp[h],fun ty c=>hap ty _ c (.inr or)⟩
  exact⟨⟨b,j,none⟩,by simp[h],fun ty c=>hap ty _ c (.inl rfl)⟩
 have mixed:Tryz.prog.follows .mixedOrders=true:=Zz;have hle:i≤j:=or;have hlt:i<L:=or;have hLi:¬L=i:=or;have hci:¬cap=i:=or;have hcm:¬cap=i+(L-j):=or;have hml:i+(L-j)≤L:=or;clear hij
 go_enter Tryz.func85,Tryz.ntmps85
 go_wp2_with fail
 go_region_law_o (refine gn .append rfl #[.tmp 22, .tmp 25] _ rfl _ (fun _=>rfl) (by simpa [Act.eval,Act.put] using hap.out _ _) ?_)
 go_wp2
 go_ret
 exact⟨rfl,rfl⟩
theorem yi(h:Hp)(n:Nat)(a b:Blk):(h.set n a).set n b=h.set n b:=by
 funext x;unfold Hp.set;split<;>rfl
theorem jr{K:Ker}{a b c:V}{cargs:Array Value}(hv:VRs K [a,b,c] cargs):∃x y z,cargs=#[x,y,z]∧VR K a x∧VR K b y∧VR K c z:=by
 obtain⟨hsz,hv⟩:=hv;have hsz:cargs.size=3:=by simpa using hsz.symm
 have h0:=hv 0 Zm;have h1:=hv 1 Zm;have h2:=hv 2 Zm;refine⟨_,_,_,?_,h0,h1,h2⟩;apply Array.ext
 ·simp[hsz]
 intro i hi _;have:i=0∨i=1∨i=2:=or;rcases this with rfl|rfl|rfl<;>simp[Array.getD,hsz]
set_option maxHeartbeats 1000000 in
set_option maxRecDepth 100000 in
theorem bg(n:Nat)(l zs:List V)(i:Nat)(h:Hp)(nx:Nat)(hn:h n=some (.arr .leaf (l++zs)))(hi:i<l.length):
 aQ Tryz.prog 85 [.rs n .leaf 0 l.length, .int .i64 i, .int .i64 (i+1:Nat)] h nx fun v h' _=>v= .rs n .leaf 0 (l.length-1)∧h'=h.set n (.arr .leaf (l.take i++l.drop (i+1)++(zin::zs))):=by
 refine⟨Zz,fun K cargs hlv hr hv=>?_⟩;obtain⟨x,y,z,rfl,v1,v2,v3⟩:=jr hv;obtain⟨i0,hi0,hs0,hz0⟩:=Ck;cases v2;cases v3;cases v1 with
 |rs _ _ _ _ cap hl hcap hm=>
  have hlt:=(hr.blk n _ hn).lt_size;obtain⟨cs,hc,hcl,hcr⟩:=xr hr.drew hn (o:=i+1) (m:=l.length-(i+1)) (by simp;omega);have hty:((l++zs).drop (i+1)).take (l.length-(i+1))=l.drop (i+1):=by rw[List.drop_append_of_le_length or,Kq Zm,Ko Zm]
  rw[hty] at hc;have hyl:(l.drop (i+1)).length=l.length-(i+1):=Zm;have hbl:=og (es:=l++zs) (o:=i) (ys:=l.drop (i+1)) (by simp;omega);obtain⟨K1,q1,q2,q3,q4,q5,q6⟩:=oe (P:=Tryz.prog) hr.drew hn (o:=i) (ys:=l.drop (i+1)) (by simp;omega) hc;have hn1:(h.set n (.arr .leaf (zY (l++zs) i (l.drop (i+1))))) n=some (.arr .leaf (zY (l++zs) i (l.drop (i+1)))):=by simp[Hp.set]
  have hK1:K.le K1:=K.le_drew.trans q2;have hmu1:K1.mu n=K.mu n:=hK1.mu n hl;obtain⟨T,m,hsh,hmm⟩:=hm;have vr1:VR K1 (.rs n .leaf (l.length-1) 1) (.slice (some ⟨K1.mu n,l.length-1,none⟩) 1 (cap-(l.length-1))):=by
   have:=VR.rs (K:=K1) n .leaf (l.length-1) 1 (cap-(l.length-1)) (hK1.live n hl) or ⟨T,m,by rw[hmu1,hK1.shape _ hlt];exact hsh,by rw[←hmm];congr 1;omega⟩;rwa [show Sh.leaf.size=1 from rfl,KS] at this
  obtain⟨K2,c1,c2,c3,c4⟩:=sU (P:=Tryz.prog) q6 hn1 (off:=l.length-1) (ln:=1) (by rw[hbl];simp;omega) vr1 Tryz.underlying37 hi0 hz0 (BC K1) rfl 0;have e1:i+(l.length-(i+1))=l.length-1:=or;have e2:l.length-(l.length-1)=1:=or;refine(xe (K.mu n) l.length cap i (i+1) rfl or hcap K.w K1.w K2.w (fun ty A c hA=>?_) (fun ty=>?_)).mono ?_
  ·refine gu (P:=Tryz.prog) K.w.drew _ _ ty _ _ i0 (K.mu n) 0 i cap A (l.length-(i+1)) c cs Tryz.underlying37 Tryz.underlying37 hi0 (by rw[hcl,hs0];rfl) or (fun j u hj=>?_) ?_
   ·rcases hA with rfl|hA
    ·rw[Addr.add_lit];have:=hcr j u hj;rwa [show Sh.leaf.size=1 from rfl,KS] at this
    have:cs=[]:=List.length_eq_zero_iff.1 (by rw[hcl,show l.length-(i+1)=0 by omega,KQ]);rw[this] at hj;cases hj
   rw[hs0,KR];exact q1
  ·rw[e1,e2,←hmu1];exact c1
  rintro e w' ⟨rfl,rfl⟩;have hK2:=hK1.trans c2;have vr:VR K (.rs n .leaf 0 (l.length-1)) (.slice (some ⟨K.mu n,0,none⟩) (l.length-1) cap):=by
   have:=VR.rs (K:=K) n .leaf 0 (l.length-1) cap hl or ⟨T,m,hsh,hmm⟩;rwa [KQ] at this
  refine⟨K2,_,_,_,nx,rfl,rfl,hK2,by rw[e1];exact vr.mono hK2,?_,fun m hm=>?_,KM _,rfl,rfl⟩
  ·rw[yi] at c4;have e3:zY (l++zs) i (l.drop (i+1))=(l.take i++l.drop (i+1))++((l++zs).drop (l.length-1)):=by
    unfold zY;rw[Kq or,hyl,e1]
   have e4:(l.take i++l.drop (i+1)).length=l.length-1:=by simp;omega
   have e5:(l++zs).drop (l.length-1+1)=zs:=by rw[show l.length-1+1=l.length by omega];simp
   have:(zY (l++zs) i (l.drop (i+1))).take (l.length-1)++List.replicate 1 zin++(zY (l++zs) i (l.drop (i+1))).drop (l.length-1+1)=l.take i++l.drop (i+1)++(zin::zs):=by
    have e6:(l.take i++l.drop (i+1)++(l++zs).drop (l.length-1)).drop (l.length-1+1)=zs:=by
     rw[List.drop_append,List.drop_of_length_le or,e4,show l.length-1+1-(l.length-1)=1 by omega,List.drop_drop,e5,KP]
    rw[e3,List.take_left' e4,e6];simp[Kw]
   rw[this] at c4;exact c4
  have h1:=c3 m hm;rw[q3] at h1;exact⟨hlv m h1, .inl h1⟩
end Go.Proofs.YtgbiopfghdilnaaGreatDoor
namespace Go.Proofs.YtgbiopfghdilnaaGreatDoor
open Go.RowKit Go.Sort
attribute [local irreducible] IntKind.wrap
set_option maxHeartbeats 4000000
instance:Inhabited Am:=⟨⟨⟨#[]⟩, .nil,[]⟩⟩
instance:Inhabited Li:=⟨⟨0,default,0,default,default,0⟩⟩
def lZ(s:List ByteArray)(l:Li):Bool:=(decide (l.k≠1)&&mR s l.vars)||iJ s l
theorem pC{l:Li}(h:cF l=true):l.vars.length≤2097158:=by
 have h1:=lE l.ts [];have h2:=gW h;simp only[jM] at h1;unfold Li.vars;omega
theorem rk(s:List ByteArray)(hl:s.length≤1000000000)(n:Nat)(es:List ME)(c:Nat)(h:Hp)(hm:h n=some (.mp es c))(hs:fJ es s)(l:Li)(hr:cF l=true):aM Tryz.prog 134 [.map n,l.v] h (.bool (lZ s l)):=by
 refine aJ (fun L=>trivial) fun h' nx hh=>aB L.aT0 fun hd=>?_;have hm1:=hh _ _ hm rfl;have n1:n<nx:=hd _ _ hm1;have b1:=pC hr;obtain⟨o1,ho1⟩:=cL .leaf (l.vars.map V.str);have C1:∀h:Hp,aM Tryz.prog 40 [l.v] h (.sl .leaf o1 (l.vars.map V.str)):=fun h=>ho1▸tC l hr h;have hf:=Li.aAD l;have C2:∀h:Hp,h n=some (.mp es c)→aM Tryz.prog 175 [.map n, .sl .leaf o1 (l.vars.map V.str)] h (.bool (mR s l.vars)):=fun h hm=>tJ s hl n es c h hm hs o1 _ or;have C3:∀h:Hp,h n=some (.mp es c)→aM Tryz.prog 131 [.map n,l.v] h (.bool (iJ s l)):=fun h hm=>xJ s hl n es c h hm hs l hr;obtain⟨T,hT,hk⟩:∃T,l.v= .agg T∧T.getD 0 (.tup [])= .int .i64 l.k:=⟨_,rfl,rfl⟩;rw[hT] at C1 C3 hf⊢;simp only[jL,jM,jA,jB,jN,jO,jP,jQ,Ka];unfold lZ;by_cases k1:l.k=1
 ·have g1:(l.k != 1)=false:=bnf;refine aue (e4 hf hk g1 n1) ?_;refine aH (C3 (h'.set nx (.arr (.agg 17) [.agg T])) (by simp only[hm1,n1,go_sem,reduceIte,jA,jB,jC,jD,reduceCtorEq,jE,jF])) rfl (aK _) ?_;refine Zn ?_;refine au ?_;refine aC h' (leo hd) ⟨?_,rfl⟩;simp[k1]
 have g1:(l.k != 1)=true:=bnt;refine aue (e4 hf hk g1 n1) ?_;refine aH (C2 (h'.set nx (.arr (.agg 17) [.agg T])) (by simp only[hm1,n1,go_sem,reduceIte,jA,jB,jC,jD,reduceCtorEq,jE,jF])) rfl (aK _) ?_;refine Zn ?_;cases ka:mR s l.vars with
 |true=>
  refine au ?_;refine aC h' (leo hd) ⟨?_,rfl⟩;simp[k1]
 |false=>
  refine aue (e2 hf n1) ?_;refine aH (C3 (h'.set nx (.arr (.agg 17) [.agg T])) (by simp only[hm1,n1,go_sem,reduceIte,jA,jB,jC,jD,reduceCtorEq,jE,jF])) rfl (aK _) ?_;refine Zn ?_;refine au ?_;refine aC h' (leo hd) ⟨?_,rfl⟩;simp[k1]
theorem qg(r:Ru)(hr:eQ r=true)(s:List ByteArray)(hl:s.length≤1000000000)(n:Nat)(es:List ME)(c:Nat)(h:Hp)(hm:h n=some (.mp es c))(hs:fJ es s)(p q:Nat)(hp:h p=some (.arr .leaf [.map n]))(hq:h q=some (.arr (.agg 6) [r.v]))(k:Nat)(hk:k<r.b.length):
 aM Tryz.prog 133 [.int .i64 k, .ptr p .leaf 0 0, .ptr q (.agg 6) 0 0] h (.bool (lZ s (r.b.getD k default))):=by
 refine aJ (fun L=>trivial) fun h' nx hh=>aB L.aT1 fun hd=>?_;simp only[jL,jM,jA,jB,jN,jO,jP,jQ,Ka];have hm1:=hh _ _ hm rfl;have hp1:=hh _ _ hp rfl;have hq1:=hh _ _ hq rfl;have n2:p<nx:=hd _ _ hp1;have n3:q<nx:=hd _ _ hq1;have hg:=aN Li.v r.b k hk;have hD:r.b.getD k default=r.b[k]:=by rw[Kb,Kf hk];rfl
 have hrl:=(dI hr).2.2 r.b[k] (Kk _);rw[hD];generalize r.b[k]=l at hg hrl;have hf:=Li.aAD l;have C:=rk s hl n es c h' hm1 hs l hrl;obtain⟨X,hX⟩:∃X,l.v=X:=⟨_,rfl⟩;rw[hX] at hg hf C;refine aue (e8 hp1 hq1 hg hk Ru.v.eq_1 (@jK Li V) (jG k) (bC hf)) ?_;refine bH C rfl (aK _) ?_;refine Zn ?_;refine au ?_;exact aC h' (leo hd) ⟨rfl,rfl⟩
theorem qf(r:Ru)(p:Nat)(h:Hp)(hp:h p=some (.arr (.agg 6) [r.v]))(k:Nat)(hk:k<r.b.length):
 aM Tryz.prog 135 [.int .i64 k, .ptr p (.agg 6) 0 0] h (.bool (decide ((r.b.getD k default).k=1))):=by
 refine aJ (fun L=>trivial) fun h' nx hh=>aB L.aTt fun hd=>?_;simp only[jL,jM,jA,jB,jN,jO,jP,jQ,Ka];have hp1:=hh _ _ hp rfl;have n2:p<nx:=hd _ _ hp1;have hg:=aN Li.v r.b k hk;have hD:r.b.getD k default=r.b[k]:=by rw[Kb,Kf hk];rfl
 rw[hD];generalize r.b[k]=l at hg;obtain⟨T,hT,hk0⟩:∃T,l.v= .agg T∧T.getD 0 (.tup [])= .int .i64 l.k:=⟨_,rfl,rfl⟩;rw[hT] at hg;refine aue (e8 hp1 hg hk Ru.v.eq_1 (@jK Li V) (jG k) hk0 n2) ?_;exact aC h' (leo hd) ⟨vb (by rw[Bool.eq_iff_iff];simp),rfl⟩
def kV(k:Nat):V:= .int .i64 k
theorem ti:aD Tryz.prog 132=some (LB.aAU .leaf):=Zz
theorem wv(p:Nat→Bool)(n:Nat)(l:List Nat)(zs:List V)(g:Nat)(caps:List V)(h:Hp)(hn:h n=some (.arr .leaf (l.map kV++zs)))(hp:∀x∈l,aM Tryz.prog g ([kV x]++caps) h (.bool (p x)))(hl:l.length≤1000000000):
 aM Tryz.prog 132 [.rs n .leaf 0 l.length, .fn (.func g) [] caps] h (.int .i64 (bE p l)):=by
 refine aJ (fun L=>trivial) fun h' nx hh=>aB ti fun hd=>?_;have hn':=hh n _ hn rfl;simp only[jL,jM,jA,jB,jN,jO,jP,jQ,Ka];refine au ?_;refine aS (fun i:Nat=>aF 19 0 [(0, .rs n .leaf 0 l.length),(1, .fn (.func g) [] caps),(7, .int .i64 l.length),(8, .int .i64 i)]) (fun i hp2 _=>i≤l.length∧hp2=h'∧∀x∈l.take i,p x=false) (fun i=>l.length-i) 0 ⟨KN _,rfl,Zm⟩ ?_ ?_
 ·simp only[WkL,aF,jH,jI,jJ,go_sem,reduceIte,jA,jB,jC,jD,reduceCtorEq,jE,jF]
 rintro i hp2 nx1 ⟨hi,rfl,hno⟩;generalize hQ:bK _ _ _ _ _=Q0;simp only[aF,go_sem,reduceIte,jA,jB,jC,jD,reduceCtorEq,jE,jF];rcases KB i l.length with hlt|hge
 ·have hc:decide ((i:Int)<(l.length:Int))=true:=decide_eq_true or;have hg:(l.map kV++zs).getD i (.tup [])= .int .i64 l[i]:=by rw[Kb,Kd (by simpa using hlt),←Kb];exact aN kV l i hlt
  have hap:(l.map kV++zs).length=l.length+zs.length:=Zm;have hlz:i<l.length+zs.length:=or;have hw:IntKind.i64.wrap ((i:Int)+1)=((i+1:Nat):Int):=by rw[eR]<;>omega
  have htk:l.take (i+1)=l.take i++[l[i]]:=Kj hlt
  (repeat' (first|(with_reducible first|refine stp ?_|refine cA ZM ?_|refine sT (fun _=>?_) (fun _=>?_))|((first|(with_reducible refine nC ?_;first|refine kO rfl ?_ ?_|refine fX rfl (hp l[i] (Kk _)) rfl hh ?_|refine Zx ?_)|(with_reducible refine nH ?_;first|refine kU rfl ?_ ?_|refine ZX ?_)|refine Zy ?_)<;>try simp only[hc,hg,hw,hlt,hn',hap,hlz,KR,jG,jQ,go_sem,reduceIte,jA,jB,jC,jD,reduceCtorEq,jE,jF])|refine ZY ?_|omega))
  ·rename_i hx;rw[←hQ];refine au ?_;refine aC hp2 (Hp.le_refl _) ⟨?_,rfl⟩;refine Zn ?_;rw[bE,(List.findIdx?_eq_some_iff_getElem (p:=p) (xs:=l) (i:=i)).2 ⟨hlt,hx,fun j hj=>by simp[hno l[j] (List.mem_take_iff_getElem.2 ⟨j,or,rfl⟩)]⟩]
  rename_i hx;rw[←hQ];refine aG (i+1) or ⟨hlt,rfl,fun x hx2=>?_⟩ ?_
  ·rw[htk] at hx2;rcases Ki.1 hx2 with h1|h1
   ·exact hno x h1
   simp at h1;rw[h1];exact hx
  simp only[WkL,aF,jH,jI,jJ,go_sem,reduceIte,jA,jB,jC,jD,reduceCtorEq,jE,jF]
 have hc:decide ((i:Int)<(l.length:Int))=false:=decide_eq_false or;refine aue hc ?_;rw[←hQ];refine au ?_;refine aC hp2 (Hp.le_refl _) ⟨?_,rfl⟩;refine Zn ?_;rw[show i=l.length by omega,List.take_length] at hno;rw[bE,List.findIdx?_eq_none_iff.2 (fun x hx=>by simp[hno x hx])]
def PlL(h:Hp)(n0:Nat)(l:List Nat)(v:V):Prop:=(l=[]∧v= .sl .leaf .nil [])∨∃id zs,n0≤id∧v= .rs id .leaf 0 l.length∧h id=some (.arr .leaf (l.map kV++zs))
theorem PlL.le{h h':Hp}{n0:Nat}{l:List Nat}{v:V}(o:PlL h n0 l v)(hle:h.le h'):PlL h' n0 l v:=o.imp id fun⟨i,z,b,c,d⟩=>⟨i,z,b,c,hle _ _ d⟩
theorem yX(p:Nat→Bool){h:Hp}{n0:Nat}{l:List Nat}{v:V}(hv:PlL h n0 l v)(g:Nat)(caps:List V)(h':Hp)(hh:h.has h')(hp:∀x∈l,aM Tryz.prog g ([kV x]++caps) h' (.bool (p x)))(hl:l.length≤1000000000):
 aM Tryz.prog 132 [v, .fn (.func g) [] caps] h' (.int .i64 (bE p l)):=by
 rcases hv with⟨rfl,rfl⟩|⟨id,zs,h2,rfl,h3⟩
 ·exact lY kV (fun _=>rfl) ti p .nil [] g caps h' (fun x hx=>by cases hx) Zm
 exact wv p id l zs g caps h' (hh _ _ h3 rfl) hp hl
def lF(r:Ru)(s:List ByteArray)(left:List Nat):Int:=
 if 0≤bE (fun k=>lZ s (r.b.getD k default)) left then bE (fun k=>lZ s (r.b.getD k default)) left else bE (fun k=>decide ((r.b.getD k default).k=1)) left
theorem pk(r:Ru)(hr:eQ r=true)(s:List ByteArray)(hl:s.length≤1000000000)(n:Nat)(es:List ME)(c:Nat)(h:Hp)(hm:h n=some (.mp es c))(hs:fJ es s)(left:List Nat)(hleft:∀k∈left,k<r.b.length)(hll:left.length≤1000)(n0:Nat)(v:V)(hv:PlL h n0 left v):
 aM Tryz.prog 84 [.map n,r.v,v] h (.int .i64 (lF r s left)):=by
 refine aJ (fun L=>trivial) fun h' nx hh=>aB L.aUh fun hd=>?_;have hm1:=hh _ _ hm rfl;have n1:n<nx:=hd _ _ hm1;obtain⟨X,hX⟩:∃X,r.v=X:=⟨_,rfl⟩;have hf:X.fits (.agg 6)=true:=by rw[←hX];rfl
 rw[hX];simp only[jL,jM,jA,jB,jN,jO,jP,jQ,Ka];obtain⟨H,hH⟩:∃H,H=(h'.set nx (.arr .leaf [.map n])).set (nx+1) (.arr (.agg 6) [X]):=⟨_,rfl⟩;have hle:h'.le H:=by rw[hH];exact leo hd
 have C5:aM Tryz.prog 132 [v, .fn (.func 133) [] [.ptr nx .leaf 0 0, .ptr (nx+1) (.agg 6) 0 0]] H (.int .i64 (bE (fun k=>lZ s (r.b.getD k default)) left)):=
  yX _ hv _ _ _ (mN hh (tS hle)) (fun k hk=>qg r hr s hl n es c H (hle _ _ hm1) hs nx (nx+1) (by rw[hH];simp[Hp.set]) (by rw[hH,hX];simp[Hp.set]) k (hleft k hk)) or
 have C6:aM Tryz.prog 132 [v, .fn (.func 135) [] [.ptr (nx+1) (.agg 6) 0 0]] H (.int .i64 (bE (fun k=>decide ((r.b.getD k default).k=1)) left)):=
  yX _ hv _ _ _ (mN hh (tS hle)) (fun k hk=>qf r (nx+1) H (by rw[hH,hX];simp[Hp.set]) k (hleft k hk)) or
 rw[hH] at C5 C6;unfold lF;by_cases hz:0≤bE (fun k=>lZ s (r.b.getD k default)) left
 ·have g1:decide (0≤bE (fun k=>lZ s (r.b.getD k default)) left)=true:=dct;refine aue (e2 hf g1) ?_;refine aC h' (leo hd) ⟨?_,rfl⟩;rw[if_pos hz];rfl
 have g1:decide (0≤bE (fun k=>lZ s (r.b.getD k default)) left)=false:=dcf;refine aue (e2 hf g1) ?_;refine aC h' (leo hd) ⟨?_,rfl⟩;rw[if_neg hz];rfl
end Go.Proofs.YtgbiopfghdilnaaGreatDoor
namespace Go.Proofs.YtgbiopfghdilnaaGreatDoor
open Go.RowKit Go.Sort
attribute [local irreducible] IntKind.wrap
set_option maxHeartbeats 4000000
theorem oZ{s vs:List ByteArray}:mR s vs=true↔∀v∈vs,v∈s:=by simp[mR,gN]
theorem fq{s t vs:List ByteArray}(h:∀x∈s,x∈t)(ha:mR s vs=true):mR t vs=true:=oZ.2 fun v hv=>h v (oZ.1 ha v hv)
theorem y7{l:Li}{x:ByteArray}:x∈l.vars↔∃t∈l.ts,t.x=x∧t.x.size≠0:=by
 unfold Li.vars;rw[td];simp
theorem Az{e:Ex}(h:(dC e).size≠0):e.ts=[e.t]∧dC e=e.t.x:=by
 unfold dC at h⊢;split at h
 ·exact absurd rfl h
 rename_i hc;rw[if_neg hc];simp only[not_or,Classical.not_not,ne_eq] at hc;rw[Ex.aFv,if_pos hc.2];exact⟨rfl,rfl⟩
theorem fp{e:Ex}{l:Li}(h:(dC e).size≠0)(hs:∀t∈e.ts,t∈l.ts):dC e∈l.vars:=by
 obtain⟨h1,h2⟩:=Az h;rw[y7];exact⟨e.t,hs _ (by rw[h1];simp),h2.symm,by rw[←h2];exact h⟩
theorem CF{l:Li}:∀t∈l.x.ts,t∈l.ts:=fun t h=>by simp[Li.ts,h]
theorem CD{l:Li}:∀t∈l.y.ts,t∈l.ts:=fun t h=>by simp[Li.ts,h]
theorem uu{s:List ByteArray}{l:Li}(h:iJ s l=true):mR s l.vars=false:=by
 unfold iJ at h;simp only[KK,Bool.or_eq_true,decide_eq_true_eq,Bool.not_eq_true'] at h;rw[←Bool.not_eq_true];intro ha;rcases h.2 with⟨⟨h1,h2⟩,_⟩|⟨⟨h1,h2⟩,_⟩
 ·exact iO.1 h2 (oZ.1 ha _ (fp h1 CF))
 exact iO.1 h2 (oZ.1 ha _ (fp h1 CD))
def nT(b:List Li)(s:List ByteArray):Nat:=(b.filter fun l=> !mR s l.vars).length
theorem A2(b:List Li){s t:List ByteArray}(h:∀x∈s,x∈t):nT b t≤nT b s:=by
 unfold nT;induction b with
 |nil=>exact KM _
 |cons a b ih=>
  simp only[KO];cases h1:mR s a.vars with
  |true=>rw[fq h h1];simpa using ih
  |false=>cases mR t a.vars<;>simp<;>omega
theorem rZ{b:List Li}{s:List ByteArray}{l:Li}(hl:l∈b)(h:iJ s l=true):nT b (s++l.vars)<nT b s:=by
 have h0:=uu h;have h1:mR (s++l.vars) l.vars=true:=oZ.2 fun v hv=>Ki.2 (.inr hv);unfold nT;induction b with
 |nil=>cases hl
 |cons a b ih=>
  have hm:=A2 b (s:=s) (t:=s++l.vars) fun x hx=>Ki.2 (.inl hx);unfold nT at hm;simp only[KO];rcases List.mem_cons.1 hl with rfl|hl
  ·rw[h0,h1];simp;omega
  have:=ih hl;cases h2:mR s a.vars with
  |true=>rw[fq (t:=s++l.vars) (fun x hx=>Ki.2 (.inl hx)) h2];simpa using this
  |false=>cases mR (s++l.vars) a.vars<;>simp<;>omega
def iB(b:List Li):Nat→List ByteArray→List ByteArray
 |0,s=>s
 |n+1,s=>match b.find? (iJ s) with
  |some l=>iB b n (s++l.vars)
  |none=>s
theorem vS(b:List Li):∀(n k:Nat) (s:List ByteArray),nT b s≤n→nT b s≤k→iB b n s=iB b k s
 |0,0,s,_,_=>rfl
 |0,k+1,s,h,_=>by
  unfold iB;cases hf:b.find? (iJ s) with
  |none=>rfl
  |some l=>have:=rZ (Ke hf) (Ks hf);omega
 |n+1,0,s,_,h=>by
  unfold iB;cases hf:b.find? (iJ s) with
  |none=>rfl
  |some l=>have:=rZ (Ke hf) (Ks hf);omega
 |n+1,k+1,s,h1,h2=>by
  unfold iB;cases hf:b.find? (iJ s) with
  |none=>rfl
  |some l=>
   have:=rZ (Ke hf) (Ks hf);exact vS b n k _ or or
def xW(b:List Li):List ByteArray:=b.flatMap fun l=>if l.k=1 then l.vars else []
def iT(r:Ru):List ByteArray:=iB r.b (nT r.b (xW r.b)) (xW r.b)
theorem n6{b:List Li}{s:List ByteArray}{l:Li}(hf:b.find? (iJ s)=some l):iB b (nT b s) s=iB b (nT b (s++l.vars)) (s++l.vars):=by
 have hlt:=rZ (Ke hf) (Ks hf);obtain⟨m,hm⟩:∃m,nT b s=m+1:=⟨nT b s-1,or⟩;rw[hm];conv=>lhs;unfold iB
 rw[hf];exact vS b _ _ _ or (KM _)
theorem n7{b:List Li}{s:List ByteArray}(hf:b.find? (iJ s)=none)(n:Nat):iB b n s=s:=by
 cases n with
 |zero=>rfl
 |succ n=>unfold iB;rw[hf]
theorem kq{b:List Li}(h:∀l∈b,cF l=true):(xW b).length≤b.length*2097158:=by
 unfold xW;induction b with
 |nil=>simp
 |cons a b ih=>
  have h1:=ih fun l hl=>h l (List.mem_cons_of_mem _ hl);have h2:=pC (h a List.mem_cons_self);have h3:(if a.k=1 then a.vars else []).length≤2097158:=by
   split
   ·exact h2
   simp
  rw[List.flatMap_cons,Ku,jL,Kv];omega
theorem u7(b:List Li)(i:Nat)(h:i<b.length):xW (b.take (i+1))=xW (b.take i)++(if b[i].k=1 then b[i].vars else []):=by
 unfold xW;rw[Kj h,List.flatMap_append];simp
theorem w9{α:Type}{p:α→Bool}{b:List α}{i:Nat}(h:i<b.length)(h1:∀x∈b.take i,p x=false)(h2:p b[i]=true):b.find? p=some b[i]:=by
 have e:b=b.take i++b[i]::b.drop (i+1):=by rw[←List.drop_eq_getElem_cons h,List.take_append_drop]
 conv=>lhs;rw[e]
 rw[List.find?_append,KH.2 (fun x hx=>by simp[h1 x hx]),Option.none_or,List.find?_cons_of_pos h2]
theorem nz(r:Ru)(hr:eQ r=true)(h:Hp)(nx:Nat):aQ Tryz.prog 81 [r.v] h nx fun v h' nx'=>∃n es c,v= .map n∧nx≤n∧h' n=some (.mp es c)∧fJ es (iT r)∧(iT r).length≤1000000000∧Hp.same nx h h':=by
 refine aB L.aUn fun hd=>?_;obtain⟨b1,b2,b3⟩:=dI hr;simp only[jL,jM,jA,jB,jN,jO,jP,jQ,Ka];refine aue (e3 Ru.v.eq_1 trs.eq_1 (@jK Li V)) ?_;refine sC ?_;refine Zn ?_;refine aue (e3 Ru.v.eq_1 trs.eq_1 (@jK Li V)) ?_
 refine aS (fun i:Nat=>aF 40 0 [(1, .ptr nx (.agg 6) 0 0),(3, .map (nx+1)),(10, .sl (.agg 17) r.o (r.b.map Li.v)),(11, .int .i64 r.b.length),(12, .int .i64 i)])
  (fun i hp nx2=>i≤r.b.length∧nx+2≤nx2∧aW hp nx2∧Hp.same nx h hp∧hp nx=some (.arr (.agg 6) [.agg [.str r.h.r, .sl (.agg 4) r.h.o (r.h.l.map Tr.v), .int .i64 r.g, .int .i64 r.c, .sl (.agg 17) r.o (r.b.map Li.v), .int .i64 r.at_]])∧∃es c,hp (nx+1)=some (.mp es c)∧fJ es (xW (r.b.take i)))
  (fun i=>r.b.length-i) 0 ⟨KN _,Zw,by exact dmo hd,by exact kep Hp.same.aBb,by simp only[go_sem,reduceIte,jA,jB,jC,jD,reduceCtorEq,jE,jF],[],0,by simp only[go_sem,reduceIte,jA,jB,jC,jD,reduceCtorEq,jE,jF],by exact cw⟩ (by simp only[WkL,aF,jH,jI,jJ,jK,go_sem,reduceIte,jA,jB,jC,jD,reduceCtorEq,jE,jF]) ?_
 rintro i hp nx2 ⟨hi,hnx,hdm,hsm,hbx,es,c,hme,hse⟩;generalize hQ:bK _ _ _ _ _=Q0;simp only[aF,go_sem,reduceIte,jA,jB,jC,jD,reduceCtorEq,jE,jF];rcases KB i r.b.length with hlt|hge
 ·have hc:decide ((i:Int)<(r.b.length:Int))=true:=dct;have f1:(nx=nx2)=False:=fls;have f2:(nx+1=nx2)=False:=fls;have hg:=aN Li.v r.b i hlt;have hw:IntKind.i64.wrap ((i:Int)+1)=((i+1:Nat):Int):=wrp;have htk:=u7 r.b i hlt;have hrl:=b3 r.b[i] (Kk _);have hpl:=kq (b:=r.b.take i) fun l hl=>b3 l (Kp hl);have hml:(r.b.take i).length*2097158≤8*2097158:=Kc _ (by rw[KL];omega);generalize r.b[i]=l at hg htk hrl;have hvl:=pC hrl;have hf:=Li.aAD l;obtain⟨o1,ho1⟩:=cL .leaf (l.vars.map V.str);have C1:∀h:Hp,aM Tryz.prog 40 [l.v] h (.sl .leaf o1 (l.vars.map V.str)):=fun h=>ho1▸tC l hrl h;obtain⟨T,hT,hk⟩:∃T,l.v= .agg T∧T.getD 0 (.tup [])= .int .i64 l.k:=⟨_,rfl,rfl⟩;rw[hT] at hg hf C1;by_cases k1:l.k=1
  ·have g1:(l.k==1)=true:=bqt;rw[if_pos k1] at htk;refine aue (e9 hc hg hlt hf hk g1 (@jK Li V) jG hw) ?_;refine bG ((qN o1 l.vars (xW (r.b.take i)) or (nx+1) es c _ (nx2+2) (by simp only[hme,f2,go_sem,reduceIte,jA,jB,jC,jD,reduceCtorEq,jE,jF]) hse).dom.mono ?_);rintro v h2 nx3 aAd ⟨⟨es2,c2,q1,q2,q3⟩,hd2,_⟩;unfold cN;refine Zn ?_;refine aue (e2 hw hc) ?_;rw[←hQ];refine aG (i+1) or ⟨hlt,or,hd2,fun m hm=>?_,?_,es2,c2,q1,by rw[htk];exact q2⟩ (by simp only[WkL,aF,jH,jI,jJ,go_sem,reduceIte,jA,jB,jC,jD,reduceCtorEq,jE,jF])
   ·rw[q3 m or or,←hsm m hm];have f3:(m=nx2)=False:=fls;simp only[Hp.set,f3,if_false]
   rw[q3 nx or or];simp only[hbx,f1,go_sem,reduceIte,jA,jB,jC,jD,reduceCtorEq,jE,jF]
  have g1:(l.k==1)=false:=bqf;rw[if_neg k1,List.append_nil] at htk;refine aue (e9 hc hg hlt hf hk g1 (@jK Li V) jG hw) ?_;rw[←hQ];refine aG (i+1) or ⟨hlt,or,dmo hdm,kep hsm,?_,es,c,?_,by rw[htk];exact hse⟩ (by simp only[WkL,aF,jH,jI,jJ,go_sem,reduceIte,jA,jB,jC,jD,reduceCtorEq,jE,jF])
  ·simp only[hbx,f1,go_sem,reduceIte,jA,jB,jC,jD,reduceCtorEq,jE,jF]
  simp only[hme,f2,go_sem,reduceIte,jA,jB,jC,jD,reduceCtorEq,jE,jF]
 have hc:decide ((i:Int)<(r.b.length:Int))=false:=dcf;refine aue hc ?_;rw[←hQ];refine au ?_;rw[Ko or] at hse;have hpl:=kq (b:=r.b) b3;have hml:r.b.length*2097158≤8*2097158:=Kc _ b2
 --again and again
 refine aS (fun s:List ByteArray=>aF 40 0 [(1, .ptr nx (.agg 6) 0 0),(3, .map (nx+1))])
  (fun s hp nx2=>nx+2≤nx2∧aW hp nx2∧Hp.same nx h hp∧hp nx=some (.arr (.agg 6) [.agg [.str r.h.r, .sl (.agg 4) r.h.o (r.h.l.map Tr.v), .int .i64 r.g, .int .i64 r.c, .sl (.agg 17) r.o (r.b.map Li.v), .int .i64 r.at_]])∧(∃es c,hp (nx+1)=some (.mp es c)∧fJ es s)∧iT r=iB r.b (nT r.b s) s∧s.length+nT r.b s*2097158≤16*2097158)
  (fun s=>nT r.b s) (xW r.b) ⟨hnx,hdm,hsm,hbx,⟨es,c,hme,hse⟩,rfl,?_⟩ (by simp only[WkL,aF,jH,jI,jJ,go_sem,reduceIte,jA,jB,jC,jD,reduceCtorEq,jE,jF]) ?_
 ·have:nT r.b (xW r.b)*2097158≤8*2097158:=Kc _ (Nat.le_trans (List.length_filter_le ..) b2);omega
 rintro s hp nx2 ⟨hnx,hdm,hsm,hbx,⟨es,c,hme,hse⟩,aAp,hsl⟩;generalize hQ:bK _ _ _ _ _=Q0;simp only[aF,go_sem,reduceIte,jA,jB,jC,jD,reduceCtorEq,jE,jF];have n1:nx<nx2:=or;refine aue (e3 hbx n1 (@jK Li V)) ?_
 refine aS (fun i:Nat=>aF 40 0 [(1, .ptr nx (.agg 6) 0 0),(3, .map (nx+1)),(25, .sl (.agg 17) r.o (r.b.map Li.v)),(26, .int .i64 r.b.length),(27, .int .i64 i)])
  (fun i hp nx2=>i≤r.b.length∧nx+2≤nx2∧aW hp nx2∧Hp.same nx h hp∧hp nx=some (.arr (.agg 6) [.agg [.str r.h.r, .sl (.agg 4) r.h.o (r.h.l.map Tr.v), .int .i64 r.g, .int .i64 r.c, .sl (.agg 17) r.o (r.b.map Li.v), .int .i64 r.at_]])∧hp (nx+1)=some (.mp es c)∧∀l∈r.b.take i,iJ s l=false)
  (fun i=>r.b.length-i) 0 ⟨KN _,hnx,hdm,hsm,hbx,hme,Zm⟩ (by simp only[WkL,aF,jH,jI,jJ,jK,go_sem,reduceIte,jA,jB,jC,jD,reduceCtorEq,jE,jF]) ?_
 rintro i hp nx2 ⟨hi,hnx,hdm,hsm,hbx,hme,hno⟩;generalize hQ2:bK _ _ _ _ _=Q2;simp only[aF,go_sem,reduceIte,jA,jB,jC,jD,reduceCtorEq,jE,jF];rcases KB i r.b.length with hlt|hge
 ·have hc:decide ((i:Int)<(r.b.length:Int))=true:=dct;have f1:(nx=nx2)=False:=fls;have f2:(nx+1=nx2)=False:=fls;have hg:=aN Li.v r.b i hlt;have hw:IntKind.i64.wrap ((i:Int)+1)=((i+1:Nat):Int):=wrp;have hrl:=b3 r.b[i] (Kk _);obtain⟨l,hl⟩:∃l,r.b[i]=l:=⟨_,rfl⟩;have hvl:=pC hrl;rw[hl] at hg hrl hvl;have hf:=Li.aAD l;obtain⟨o1,ho1⟩:=cL .leaf (l.vars.map V.str);have C1:∀h:Hp,aM Tryz.prog 40 [l.v] h (.sl .leaf o1 (l.vars.map V.str)):=fun h=>ho1▸tC l hrl h;have S:∀h:Hp,h (nx+1)=some (.mp es c)→aM Tryz.prog 131 [.map (nx+1),l.v] h (.bool (iJ s l)):=fun h hm=>xJ s or (nx+1) es c h hm hse l hrl;obtain⟨X,hX⟩:∃X,l.v=X:=⟨_,rfl⟩;rw[hX] at hg hf C1 S;refine aue (e7 hc hg hlt hf (@jK Li V) jG hw) ?_;refine aH (S _ (by simp only[hme,f2,go_sem,reduceIte,jA,jB,jC,jD,reduceCtorEq,jE,jF])) rfl (aK _) ?_;refine Zn ?_;cases hss:iJ s l with
  |true=>
   have hfd:=w9 (p:=iJ s) hlt hno (by rw[hl];exact hss);rw[hl] at hfd;have aSM:=rZ (Ke hfd) hss;refine aue hf ?_;refine bG ((qN o1 l.vars s or (nx+1) es c _ (nx2+2) (by simp only[hme,f2,go_sem,reduceIte,jA,jB,jC,jD,reduceCtorEq,jE,jF]) hse).dom.mono ?_);rintro v h2 nx3 aAd ⟨⟨es2,c2,q1,q2,q3⟩,hd2,_⟩;unfold cN;refine Zn ?_;refine au ?_;rw[←hQ2];refine au ?_;rw[←hQ];refine aG (s++l.vars) aSM ⟨or,hd2,fun m hm=>?_,?_,⟨es2,c2,q1,q2⟩,by rw[aAp];exact n6 hfd,?_⟩ (by simp only[WkL,aF,jH,jI,jJ,go_sem,reduceIte,jA,jB,jC,jD,reduceCtorEq,jE,jF])
   ·rw[q3 m or or,←hsm m hm];have f3:(m=nx2)=False:=fls;simp only[Hp.set,f3,if_false]
   ·rw[q3 nx or or];simp only[hbx,f1,go_sem,reduceIte,jA,jB,jC,jD,reduceCtorEq,jE,jF]
   rw[Ku];have:=Kc 2097158 aSM;omega
  |false=>
   refine aue hw ?_;rw[←hQ2];refine aG (i+1) or ⟨hlt,or,dmo hdm,kep hsm,?_,?_,fun x hx=>?_⟩ (by simp only[WkL,aF,jH,jI,jJ,go_sem,reduceIte,jA,jB,jC,jD,reduceCtorEq,jE,jF])
   ·simp only[hbx,f1,go_sem,reduceIte,jA,jB,jC,jD,reduceCtorEq,jE,jF]
   ·simp only[hme,f2,go_sem,reduceIte,jA,jB,jC,jD,reduceCtorEq,jE,jF]
   rw[Kj hlt,Ki,List.mem_singleton] at hx;rcases hx with hx|rfl
   ·exact hno x hx
   rw[hl];exact hss
 have hc:decide ((i:Int)<(r.b.length:Int))=false:=dcf;refine aue hc ?_;rw[←hQ2];refine au ?_;rw[←hQ];refine au ?_;rw[Ko or] at hno;have hbl:iT r=s:=by rw[aAp];exact n7 (KH.2 fun x hx=>by simp[hno x hx]) _
 exact aC hp (Hp.le_refl _) ⟨nx+1,es,c,rfl,or,hme,by rw[hbl];exact hse,by rw[hbl];omega,hsm⟩
end Go.Proofs.YtgbiopfghdilnaaGreatDoor
namespace Go.Proofs.YtgbiopfghdilnaaGreatDoor
open Go.RowKit Go.Sort
attribute [local irreducible] IntKind.wrap
set_option maxHeartbeats 4000000
theorem gh(r:Ru)(hr:eQ r=true)(h:Hp):aM Tryz.prog 37 [r.v] h (.sl .leaf (frO r.vars) ((dU r (iT r) false).map V.str)):=by
 have hnm:∀L,(V.sl .leaf (frO r.vars) ((dU r (iT r) false).map V.str)).names L:=fun L=>⟨fun m e=>(by unfold frO at e;split at e<;>cases e),bB (f:=V.str) (fun _=>trivial) _⟩;refine aJ hnm fun h' nx hh=>aB L.aVL fun hd=>?_;have hd:aW h' nx:=hd;have hB:=fun h nx=>nz r hr h nx;have hS:=fun n es c h hm hs=>xM r hr (iT r) n es c h hm hs false;obtain⟨X,hX⟩:∃X,r.v=X:=⟨_,rfl⟩;have hf:X.fits (.agg 6)=true:=by rw[←hX];rfl
 obtain⟨res,aBT⟩:∃res,V.sl .leaf (frO r.vars) ((dU r (iT r) false).map V.str)=res:=⟨_,rfl⟩;rw[hX] at hB hS⊢;rw[aBT] at hS⊢;simp only[List.length_cons,List.length_nil,Kx,Ky,List.replicate_succ,List.replicate_zero,List.cons_append,KP,Ka];generalize hDC:aU.draw _ _ _=DC;refine aue hf ?_;rw[←hDC]
 obtain⟨I,hI⟩:∃I:(Nat→Bool)→St→Prop,∀D s',I D s'↔∃c2 c3 c4 c5 c6,s'.sl=[X, .ptr nx (.agg 6) 0 0,c2,c3,c4,c5,c6]∧h'.le s'.h∧aW s'.h s'.nx∧nx<s'.nx∧s'.h nx=some (.arr (.agg 6) [X])∧(D 0=true→c3=X)∧(D 1=true→c4=X)∧
  (D 2=true→∃n es c,c5= .map n∧s'.h n=some (.mp es c)∧fJ es (iT r))∧(D 3=true→c6=res)∧(D 4=true→c2=res):=⟨_,fun _ _=>Iff.rfl⟩
 refine pJ ⟨I,?_,?_,?_⟩
 ·exact(hI _ _).2 ⟨_,_,_,_,_,rfl,leo hd,dmo hd,Zw,by simp only[go_sem,reduceIte,Kx,Ky,KI,Kz,reduceCtorEq,KA,KD],fun h=>(by cases h),fun h=>(by cases h),fun h=>(by cases h),fun h=>(by cases h),fun h=>(by cases h)⟩
 ·rintro D i o aAF ⟨sl,h1,nx1⟩ hi hDi aA4 hcl hID;obtain⟨c2,c3,c4,c5,c6,q1,q2,q3,q4,q5,d0,d1,d2,d3,d4⟩:=(hI _ _).1 hID;dsimp only at q1 q2 q3 q4 q5 d2;subst q1;match i,hi with
  |0,hi=>
   cases hi;refine aue (e3 q5 hf q4) ?_;refine(hI _ _).2 ⟨_,_,_,_,_,rfl,q2,q3,q4,q5,fun _=>rfl,d1,d2,d3,d4⟩
  |1,hi=>
   cases hi;refine aue (e3 q5 hf q4) ?_;refine(hI _ _).2 ⟨_,_,_,_,_,rfl,q2,q3,q4,q5,d0,fun _=>rfl,d2,d3,d4⟩
  |2,hi=>
   cases hi;obtain rfl:=d1 (aA4 1 Zm);refine bG ((hB h1 nx1).dom.mono ?_);rintro v h2 nx2 aAd ⟨⟨n,es,c,rfl,w1,w2,w3,w4,w5⟩,hd2,_⟩;unfold cN;simp only[go_sem,reduceIte,Kx,Ky,KI,Kz,reduceCtorEq,KA,KD];refine au ?_;refine(hI _ _).2 ⟨_,_,_,_,_,rfl,w5.le (hd.up (Nat.le_of_lt q4)) q2,hd2,Nat.lt_of_lt_of_le q4 aAd,(w5 nx q4).trans q5,d0,fun _=>rfl,fun _=>⟨n,es,c,rfl,w2,w3⟩,d3,d4⟩
  |3,hi=>
   cases hi;obtain rfl:=d0 (aA4 0 Zm);obtain⟨n,es,c,rfl,w2,w3⟩:=d2 (aA4 2 Zm);refine aH (hS n es c h1 w2 w3) rfl (aK _) ?_;simp only[go_sem,reduceIte,Kx,Ky,KI,Kz,reduceCtorEq,KA,KD];refine au ?_;refine(hI _ _).2 ⟨_,_,_,_,_,rfl,q2,q3,q4,q5,fun _=>rfl,d1,fun _=>⟨n,es,c,rfl,w2,w3⟩,fun _=>rfl,d4⟩
  |4,hi=>
   cases hi;obtain rfl:=d3 (aA4 3 Zm);refine au ?_;refine(hI _ _).2 ⟨_,_,_,_,_,rfl,q2,q3,q4,q5,d0,d1,d2,fun _=>rfl,fun _=>rfl⟩
  |n+5,hi=>cases hi
 rintro D ⟨sl,h1,nx1⟩ hD hID;obtain⟨c2,c3,c4,c5,c6,q1,q2,q3,q4,q5,d0,d1,d2,d3,d4⟩:=(hI _ _).1 hID;dsimp only at q1 q2;subst q1;obtain rfl:=d4 (hD 4 ZM);refine au ?_;exact aC h' q2 ⟨rfl,rfl⟩
end Go.Proofs.YtgbiopfghdilnaaGreatDoor
