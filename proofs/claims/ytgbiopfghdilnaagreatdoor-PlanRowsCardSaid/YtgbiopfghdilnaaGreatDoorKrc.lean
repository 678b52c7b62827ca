/-
Texts of this proof,one behind the other. No conditions.
-/
import Derived.Test.YtgbiopfghdilnaaGreatDoorKra
import Derived.Test.YtgbiopfghdilnaaGreatDoorKla
import Derived.Test.YtgbiopfghdilnaaGreatDoorKp
open Go.Proofs.YtgbiopfghdilnaaGreatDoor.Hp renaming set→Ka,same→Kb,le_refl→Kc,del→Ki
open List renaming getD_eq_getElem?_getD→Kd,range→Ke,getElem?_eq_getElem→Kf,map_append→Kg,getElem_mem→Kh,take_succ_eq_append_getElem→Kj,length_take→Km,take_of_length_le→Ko,length_filter_le→Kp,map_nil→Ks,mem_of_mem_take→Kt,append_nil→Ku,take_zero→Kv,length_range→Kw,map_cons→Kz,length_append→KC,mem_filter→KD,length_map→KE,mem_range→KF,replicate→KG,filter_eq_self→KH,append_assoc→KI,flatMap_map→KJ,flatMap_def→KK,nodup_cons→KM
open Nat renaming mul_le_mul_right→Kk,lt_or_ge→Kq,zero_le→Kx,le_refl→Ky,le_trans→KB
open Go.IntKind renaming wrap→KA
open Nat renaming reduceAdd→jA,reduceSub→jB,reduceLT→jC,reduceLeDiff→jD,reduceEqDiff→jE
open Int renaming reduceToNat→jF,toNat_natCast→jG,natCast_add→jH,natCast_one→jI,natCast_zero→jJ
open List renaming length_map→jK,length_cons→jL,length_nil→jM
set_option linter.all false
set_option maxHeartbeats 8000000
namespace Go.Proofs.YtgbiopfghdilnaaGreatDoor
open Go.RowKit Go.Sort
attribute [local irreducible] KA
section
variable{P:Program}{r:List aA}{Qs:St→Prop}{s:St}{dst:Option Nat}
theorem iT{k:Sh}{bs n0:Nat}{x y:aN}{o:Own}{es ys:List V}(hx:x.ev s.sl= .sl k o es)(ha:Acc s.h n0 o es)(hn:n0≤s.nx)(hd:aS s.h s.nx)(hy:dS s.h (y.ev s.sl)=some (k,ys))(hb:(es.length+ys.length)*bs≤140737488355328)
 (hq:∀o' h',Acc h' n0 o' (es++ys)→aS h' (s.nx+1)→(∀m,o'= .tok m→m=s.nx)→(∀m,m<n0→h' m=s.h m)→(∀m,m<s.nx→o≠ .tok m→h' m=s.h m)→bA P r Qs ⟨bO s.sl dst (.sl k o' (es++ys)),h',s.nx+1⟩):bA P (⟨dst,none, .append k bs x y⟩::r) Qs s:=by
 rcases ha with⟨rfl,rfl⟩|⟨hne,id,hid,rfl,ht⟩
 ·by_cases hys:ys=[]
  ·subst hys;have:=hq .nil s.h (.inl ⟨rfl,rfl⟩) (hd.up or) (fun _ e=>by cases e) (fun _ _=>rfl) (fun _ _ _=>rfl);unfold bA;simp only[LOp.run,LOp.sem,hy,hx,true_and];exact⟨hb, .inl ⟨trivial,this⟩⟩
  refine nl hx trivial hy hys hb ?_;exact hq (.tok s.nx) _ (.inr ⟨by simpa using hys,s.nx,hn,rfl,by simp[Ka]⟩) (dmo hd) (fun m e=>by injection e with e;exact e.symm) (fun m hm=>by simp only[Ka,Hp.aA7];rw[if_neg or]) (fun m hm _=>by simp only[Ka,Hp.aA7];rw[if_neg or])
 refine yC hx ht hy hb ?_;exact hq (.tok s.nx) _ (.inr ⟨by simp[hne],s.nx,hn,rfl,by simp[Ka]⟩) (dmo hd) (fun m e=>by injection e with e;exact e.symm) (fun m hm=>by simp only[Ka,Ki];rw[if_neg or,if_neg or]) (fun m hm ho=>by simp only[Ka,Ki];rw[if_neg or,if_neg (fun e=>ho (by rw[e]))])
end
theorem Fq{h:Hp}{n0 n nx:Nat}{o:Own}{es:List V}{b:Blk}(a:Acc h n0 o es)(hb:h n=some b)(hn:n<n0)(hx:n<nx){c d:Blk}:(((h.set nx c).aA7 o).set (nx+1) d) n=some b:=by
 simp only[Ka,gS (fun id e=>by have:=a.ge id e;omega:∀id,o= .tok id→n≠id)];rw[if_neg or,if_neg or];exact hb
theorem xj(r:Ru)(hr:bT r=true)(h:Hp):aK Tryz.prog 143 [r.v] h (lst .leaf ((nU r).map V.str)):=by
 refine dF (fun L=>bV (fun L=>aT (f:=V.str) (fun _=>trivial) _) L) fun h' nx hh=>aB L.aZ3 fun hd=>?_;have hd:aS h' nx:=hd;obtain⟨b1,b2,b3⟩:=cM hr;refine ZK ?_;have aAu:∀i,(kI (r.b.take i)).length≤8*2097158:=fun i=>by
  have h1:=vX (b:=r.b.take i) fun l hl=>b3 l (Kt hl);have h2:(r.b.take i).length*2097158≤8*2097158:=Kk _ (by rw[Km];omega);exact KB h1 h2
 refine aue (e3 Ru.v.eq_1 trs.eq_1 (@jK Li V)) ?_
 refine aO (fun q:Nat×Own=>aD 58 0 [(1, .ptr nx (.agg 6) 0 0),(2, .sl .leaf .nil []),(3, .sl .leaf q.2 ((kI (r.b.take q.1)).map V.str)),(4, .int .i64 q.1)])
  (fun q hp nx1=>q.1≤r.b.length∧nx+1≤nx1∧aS hp nx1∧Kb nx h' hp∧hp nx=some (.arr (.agg 6) [.agg [.str r.h.r, .sl (.agg 4) r.h.o (r.h.l.map Tr.v), .int .i64 r.g, .int .i64 r.c, .sl (.agg 17) r.o (r.b.map Li.v), .int .i64 r.at_]])∧Acc hp (nx+1) q.2 ((kI (r.b.take q.1)).map V.str))
  (fun q=>r.b.length-q.1) (0, .nil) ⟨Kx _,Zw,by exact dmo hd,by exact kep Hp.same.aAn,by simp only[go_sem,reduceIte,jA,jB,jC,jD,reduceCtorEq,jE,jF], .inl ⟨rfl,rfl⟩⟩ (by simp only[WkL,aD,jH,jI,jJ,kI,Kv,List.flatMap_nil,go_sem,reduceIte,jA,jB,jC,jD,reduceCtorEq,jE,jF]) ?_
 rintro⟨i,o⟩ hp nx1 ⟨hi,hnx,hdm,hsm,hbx,hac⟩;generalize hQ:aV _ _ _ _ _=Q0;dsimp only at hi hac;refine Zk ?_;have n1:nx<nx1:=or;have hpi:=aAu i;rcases Kq i r.b.length with hlt|hge
 ·have hc:decide ((i:Int)<(r.b.length:Int))=true:=dct;have hg:=aJ Li.v r.b i hlt;have hw:IntKind.i64.wrap ((i:Int)+1)=((i+1:Nat):Int):=wrp;have htk:=mq r.b i hlt;have hrl:=b3 r.b[i] (Kh _);generalize r.b[i]=l at hg htk hrl;have hvl:=iI hrl;have hf:=Li.aAA l;obtain⟨o1,ho1⟩:=bQ .leaf (l.vars.map V.str);have C1:∀h:Hp,aK Tryz.prog 48 [l.v] h (.sl .leaf o1 (l.vars.map V.str)):=fun h=>ho1▸rF l hrl h;obtain⟨T,hT,hk⟩:∃T,l.v= .agg T∧T.getD 0 (.tup [])= .int .i64 l.k:=⟨_,rfl,rfl⟩;rw[hT] at hg hf C1;by_cases k1:l.k=1
  ·have g1:(l.k==1)=true:=bqt;rw[if_pos k1] at htk;generalize hW:kI (r.b.take i)=W at*;refine aun (e10 hc hg hlt hf hk g1 hbx n1 (@jK Li V) jG) ?_;refine iT rfl hac Zw hdm rfl (by simp only[jK];omega) ?_;intro o2 h2 aR6 hd2 ho2 hs2 hs3;dsimp only at hd2 ho2 hs3;refine aue hw ?_;rw[←hQ];refine aF (i+1,o2) Zw ⟨hlt,or,by exact dmo hd2,fun m hm=>(hs2 m or).trans (hsm m hm),(hs2 nx or).trans hbx,?_⟩ (by simp only[WkL,aD,jH,jI,jJ,htk,Kg,go_sem,reduceIte,jA,jB,jC,jD,reduceCtorEq,jE,jF]);dsimp only;rw[htk,Kg];exact aR6
  have g1:(l.k==1)=false:=bqf;rw[if_neg k1,Ku] at htk;refine aue (e11 hc hg hlt hf hk g1 hbx n1 (@jK Li V) jG hw) ?_;rw[←hQ];exact aF (i+1,o) Zw ⟨hlt,or,dmo hdm,kep hsm,hbx,by dsimp only;rw[htk];exact hac⟩ (by simp only[WkL,aD,jH,jI,jJ,htk,go_sem,reduceIte,jA,jB,jC,jD,reduceCtorEq,jE,jF])
 have hc:decide ((i:Int)<(r.b.length:Int))=false:=dcf;refine aue (e4 hc hbx n1 (@jK Li V)) ?_;rw[←hQ];refine au ?_;rw[Ko or] at*;have hm8:aAh r.b (kI r.b)*2097158≤8*2097158:=Kk _ (KB (Kp ..) b2)
 refine aO (fun q:List ByteArray×Own=>aD 58 0 [(1, .ptr nx (.agg 6) 0 0),(2, .sl .leaf .nil []),(3, .sl .leaf q.2 (q.1.map V.str))])
  (fun q hp nx1=>nx+1≤nx1∧aS hp nx1∧Kb nx h' hp∧hp nx=some (.arr (.agg 6) [.agg [.str r.h.r, .sl (.agg 4) r.h.o (r.h.l.map Tr.v), .int .i64 r.g, .int .i64 r.c, .sl (.agg 17) r.o (r.b.map Li.v), .int .i64 r.at_]])∧Acc hp (nx+1) q.2 (q.1.map V.str)∧nU r=gF r.b (aAh r.b q.1+1) q.1∧q.1.length+aAh r.b q.1*2097158≤16*2097158)
  (fun q=>aAh r.b q.1) (kI r.b,o) ⟨hnx,hdm,hsm,hbx,hac,rfl,Zw⟩ (by simp only[WkL,aD,jH,jI,jJ,go_sem,reduceIte,jA,jB,jC,jD,reduceCtorEq,jE,jF]) ?_
 rintro⟨s,o⟩ hp nx1 ⟨hnx,hdm,hsm,hbx,hac,aAk,hsl⟩;generalize hQ:aV _ _ _ _ _=Q0;dsimp only at hac aAk hsl;refine Zk ?_;have n1:nx<nx1:=or;refine aue (e3 hbx n1 (@jK ByteArray V)) ?_;have hgl:∀i,(eD (r.b.take i) s).length+aAh r.b (eD (r.b.take i) s)*2097158≤s.length+aAh r.b s*2097158:=fun i=>(kN r.b (r.b.take i) s fun l hl=>Kt hl).len b3
 refine aO (fun q:Nat×Own=>aD 58 0 [(1, .ptr nx (.agg 6) 0 0),(2, .sl .leaf .nil []),(3, .sl .leaf q.2 ((eD (r.b.take q.1) s).map V.str)),(5, .int .i64 s.length),(6, .int .i64 q.1)])
  (fun q hp nx1=>q.1≤r.b.length∧nx+1≤nx1∧aS hp nx1∧Kb nx h' hp∧hp nx=some (.arr (.agg 6) [.agg [.str r.h.r, .sl (.agg 4) r.h.o (r.h.l.map Tr.v), .int .i64 r.g, .int .i64 r.c, .sl (.agg 17) r.o (r.b.map Li.v), .int .i64 r.at_]])∧Acc hp (nx+1) q.2 ((eD (r.b.take q.1) s).map V.str))
  (fun q=>r.b.length-q.1) (0,o) ⟨Kx _,hnx,hdm,hsm,hbx,hac⟩ (by simp only[WkL,aD,jH,jI,jJ,eD,Kv,List.foldl_nil,go_sem,reduceIte,jA,jB,jC,jD,reduceCtorEq,jE,jF]) ?_
 rintro⟨i,o⟩ hp nx1 ⟨hi,hnx,hdm,hsm,hbx,hac⟩;generalize hQ2:aV _ _ _ _ _=Q2;dsimp only at hi hac;refine Zk ?_;have n1:nx<nx1:=or;rcases Kq i r.b.length with hlt|hge
 ·have hc:decide ((i:Int)<(r.b.length:Int))=true:=dct;have hg:=aJ Li.v r.b i hlt;have hw:IntKind.i64.wrap ((i:Int)+1)=((i+1:Nat):Int):=wrp;have htk:=z7 r.b s i hlt;have hrl:=b3 r.b[i] (Kh _);have hgi:=hgl i;generalize r.b[i]=l at hg htk hrl;have hvl:=iI hrl;have hf:=Li.aAA l;obtain⟨o1,ho1⟩:=bQ .leaf (l.vars.map V.str);have C1:∀h:Hp,aK Tryz.prog 48 [l.v] h (.sl .leaf o1 (l.vars.map V.str)):=fun h=>ho1▸rF l hrl h;generalize hW:eD (r.b.take i) s=W at*;have hWl:W.length≤16*2097158:=or;have C2:=fun h=>du o W or l hrl h;obtain⟨T,hT⟩:∃T,l.v=T:=⟨_,rfl⟩;rw[hT] at hg hf C1 C2;cases hss:cU W l with
  |true=>
   rw[hss] at C2;rw[hss,if_pos rfl] at htk;refine aun (e8 hc hg hlt hf hbx n1 (@jK Li V) jG) ?_;refine iT rfl hac Zw hdm rfl (by simp only[jK];omega) ?_;intro o2 h2 aR6 hd2 ho2 hs2 hs3;dsimp only at hd2 ho2 hs3;refine aue hw ?_;rw[←hQ2];refine aF (i+1,o2) Zw ⟨hlt,or,by exact dmo hd2,fun m hm=>(hs2 m or).trans (hsm m hm),(hs2 nx or).trans hbx,?_⟩ (by simp only[WkL,aD,jH,jI,jJ,htk,Kg,go_sem,reduceIte,jA,jB,jC,jD,reduceCtorEq,jE,jF]);dsimp only;rw[htk,Kg];exact aR6
  |false=>
   rw[hss] at C2;rw[hss,if_neg Zm] at htk;refine aue (e9 hc hg hlt hf hbx n1 (@jK Li V) jG hw) ?_;rw[←hQ2];exact aF (i+1,o) Zw ⟨hlt,or,dmo hdm,kep hsm,hbx,by dsimp only;rw[htk];exact hac⟩ (by simp only[WkL,aD,jH,jI,jJ,htk,go_sem,reduceIte,jA,jB,jC,jD,reduceCtorEq,jE,jF])
 have hc:decide ((i:Int)<(r.b.length:Int))=false:=dcf;refine aue (e4 hc hbx n1 (@jK Li V)) ?_;rw[←hQ2];rw[Ko or] at*;by_cases hst:(eD r.b s).length=s.length
 ·have g:(((eD r.b s).length:Int)==(s.length:Int))=true:=bqt;refine aue (e2 g (@jK ByteArray V)) ?_;rw[←hQ];refine au ?_;refine aC h' (hsm.le hd (Kc _)) ⟨?_,Kc _⟩;have bBk:=(pA r.b s hst).1;rw[bBk] at hac⊢;rw[aAk,rj _ hst];exact mI hac
 have g:(((eD r.b s).length:Int)==(s.length:Int))=false:=bqf;refine aue (e2 g (@jK ByteArray V)) ?_;rw[←hQ];have hgr:=(kN r.b r.b s fun l hl=>hl).len b3;exact aF (eD r.b s,o) (sC hst) ⟨hnx,hdm,hsm,hbx,hac,by dsimp only;rw[aAk];exact ri hst,Zw⟩ (by simp only[WkL,aD,jH,jI,jJ,go_sem,reduceIte,jA,jB,jC,jD,reduceCtorEq,jE,jF])
theorem AV{r:Ru}(hr:bT r=true):(nU r).length≤1000000000:=by
 obtain⟨b1,b2,b3⟩:=cM hr;have h1:(nU r).length+aAh r.b (nU r)*2097158≤_:=((pK r.b _ _ (Nat.lt_succ_self (aAh r.b (kI r.b)))).1).len b3;have h2:=vX b3;have h3:r.b.length*2097158≤8*2097158:=Kk _ b2;have h4:aAh r.b (kI r.b)*2097158≤8*2097158:=Kk _ (KB (Kp ..) b2);omega
theorem yd(r:Ru)(hr:bT r=true)(b:Bool)(h:Hp):aK Tryz.prog 91 [r.v, .bool b] h (lst .leaf ((cL r (dY r) b).map V.str)):=by
 refine aH (fun L=>bV (fun L=>aT (f:=V.str) (fun _=>trivial) _) L) fun h' nx hh=>aB L.bC0 fun hd=>?_;obtain⟨o,ho⟩:=bQ .leaf ((nU r).map V.str);have D1:∀h:Hp,aK Tryz.prog 143 [r.v] h (.sl .leaf o ((nU r).map V.str)):=fun h=>ho▸xj r hr h;have D2:∀h:Hp,aK Tryz.prog 142 [r.v, .sl .leaf o ((nU r).map V.str), .bool b] h (lst .leaf ((cL r (dY r) b).map V.str)):=fun h=>by
  rw[←BY hr];exact td r hr o _ (AV hr) b h
 have hf:r.v.fits (.agg 6)=true:=rfl;obtain⟨X,hX⟩:∃X,r.v=X:=⟨_,rfl⟩;rw[hX] at D1 D2 hf⊢;refine ZK ?_;refine aue hf ?_;exact aC h' (leo hd) ⟨rfl,rfl⟩
def ql(r:Ru):Int:=if bT r=false then 2 else if cL r (dY r) false≠ [] then 8 else 0
theorem Cz(r:Ru)(hs:r.sm)(h:Hp):aK Tryz.prog 46 [r.v] h (.int .i64 (ql r)):=by
 refine aH (fun L=>trivial) fun h' nx hh=>aB L.bD8 fun hd=>?_;have C1:=fun h=>tt r hs h;have E1:=fun hr h=>yd r hr false h;have hf:r.v.fits (.agg 6)=true:=rfl;obtain⟨X,hX⟩:∃X,r.v=X:=⟨_,rfl⟩;rw[hX] at C1 E1 hf⊢;refine ZK ?_;unfold ql;cases hr:bT r with
 |false=>
  rw[hr] at C1;refine aue hf ?_;exact aC h' (leo hd) ⟨rfl,rfl⟩
 |true=>
  rw[hr] at C1;have C2:=fun h=>E1 hr h;rw[if_neg Zm];cases hsv:cL r (dY r) false with
  |nil=>
   simp only[hsv,Ks,bw] at C2;have hz:decide ((0:Int)<((0:Nat):Int))=false:=rfl;refine aue (e2 hf hz) ?_;exact aC h' (leo hd) ⟨rfl,rfl⟩
  |cons a b=>
   rw[hsv] at C2;have g1:decide ((0:Int)<(((a::b).map V.str).length:Int))=true:=dct Zm;have hl:lst .leaf ((a::b).map V.str)= .sl .leaf .free ((a::b).map V.str):=rfl;rw[hl] at C2;generalize (a::b).map V.str=q at C2 g1;refine aue (e2 hf g1) ?_;exact aC h' (leo hd) ⟨rfl,rfl⟩
end Go.Proofs.YtgbiopfghdilnaaGreatDoor
namespace Go.Proofs.YtgbiopfghdilnaaGreatDoor
open Go.RowKit Go.Sort
def kQ(q:Nat→Bool)(l:List Nat):Int:=match l.find? q with
 |some k=>k
 |none=>-1
theorem Cu(q:Nat→Bool)(k:Nat)(l:List Nat):kQ q (k::l)=if q k=true then (k:Int) else kQ q l:=by
 unfold kQ;cases h:q k
 ·rw[List.find?_cons_of_neg (by simp[h])];simp
 rw[List.find?_cons_of_pos h];simp
theorem qr(p:Nat→Bool)(l:List Nat):(bH p l=-1∧l.find? p=none)∨∃(i:Nat) (h:i<l.length),bH p l=i∧l.find? p=some l[i]:=by
 unfold bH;cases h:l.findIdx? p with
 |none=>
  rw[List.findIdx?_eq_none_iff] at h;exact .inl ⟨rfl,List.find?_eq_none.2 fun x hx=>by simp[h x hx]⟩
 |some i=>
  rw[List.findIdx?_eq_some_iff_getElem] at h;obtain⟨h1,h2,h3⟩:=h;exact .inr ⟨i,h1,rfl,List.find?_eq_some_iff_getElem.2 ⟨h2,i,h1,rfl,fun j hj=>by simpa using h3 j hj⟩⟩
def dU(tk:List Bool)(n:Nat):List Nat:=(Ke n).filter fun k=> !tk.getD k true
theorem Aq(tk:List Bool)(n:Nat)(p:Nat→Bool):(dU tk n).find? p=(Ke n).find? fun k=> !tk.getD k true&&p k:=by
 unfold dU;rw[List.find?_filter];congr 1;funext k;simp
def pU(r:Ru)(s:List ByteArray)(tk:List Bool):Int:=
 if kQ (fun k=> !tk.getD k true&&fF s (r.b.getD k default)) (Ke r.b.length)<0 then kQ (fun k=> !tk.getD k true&&decide ((r.b.getD k default).k=1)) (Ke r.b.length) else kQ (fun k=> !tk.getD k true&&fF s (r.b.getD k default)) (Ke r.b.length)
theorem ji(r:Ru)(s:List ByteArray)(tk:List Bool):(pU r s tk=-1∧iS r s (dU tk r.b.length)<0)∨∃(i:Nat) (h:i<(dU tk r.b.length).length),iS r s (dU tk r.b.length)=i∧pU r s tk=(dU tk r.b.length)[i]:=by
 have key:∀p:Nat→Bool,(bH p (dU tk r.b.length)=-1∧kQ (fun k=> !tk.getD k true&&p k) (Ke r.b.length)=-1)∨∃(i:Nat) (h:i<(dU tk r.b.length).length),bH p (dU tk r.b.length)=i∧kQ (fun k=> !tk.getD k true&&p k) (Ke r.b.length)=(dU tk r.b.length)[i]:=fun p=>by
  unfold kQ;rw[←Aq];rcases qr p (dU tk r.b.length) with⟨h1,h2⟩|⟨i,h,h1,h2⟩
  ·exact .inl ⟨h1,by rw[h2]⟩
  exact .inr ⟨i,h,h1,by rw[h2]⟩
 unfold pU iS;rcases key (fun k=>fF s (r.b.getD k default)) with⟨h1,h2⟩|⟨i,h,h1,h2⟩
 ·rw[h1,h2,if_pos or,if_neg or];rcases key (fun k=>decide ((r.b.getD k default).k=1)) with⟨h1,h2⟩|⟨i,h,h1,h2⟩
  ·exact .inl ⟨h2,or⟩
  exact .inr ⟨i,h,h1,h2⟩
 rw[h1,h2,if_neg or,if_pos or];exact .inr ⟨i,h,rfl,rfl⟩
theorem zW:∀(l:List Nat) (i:Nat) (h:i<l.length),l.Nodup→l.eraseIdx i=l.filter fun x=>decide (x≠l[i])
 |a::l,0,_,nd=>by
  have h:=KM.1 nd;simp only[List.eraseIdx_cons_zero,List.getElem_cons_zero];rw[List.filter_cons_of_neg Zm];refine(KH.2 fun x hx=>?_).symm;have hne:x≠a:=fun e=>h.1 (by rw[←e];exact hx);simpa using hne
 |a::l,i+1,hi,nd=>by
  have h:=KM.1 nd;have hi:i<l.length:=by simpa using hi
  simp only[List.eraseIdx_cons_succ,List.getElem_cons_succ];have hne:a≠l[i]:=fun e=>h.1 (by rw[e];exact Kh _);rw[List.filter_cons_of_pos (by simpa using hne),zW l i hi h.2]
theorem CK(tk:List Bool)(n i:Nat)(h:i<(dU tk n).length)(hn:tk.length=n):dU (tk.set (dU tk n)[i] true) n=(dU tk n).eraseIdx i:=by
 rw[zW _ i h (List.nodup_range.filter _)];have hk:(dU tk n)[i]<n:=by
  have:=Kh h;exact KF.1 (KD.1 this).1
 generalize (dU tk n)[i]=k at*;unfold dU;rw[List.filter_filter];refine List.filter_congr fun x hx=>?_;simp only[Kd,List.getElem?_set];by_cases e:k=x
 ·subst e;rw[if_pos rfl,if_pos or];simp
 rw[if_neg e];simp[Ne.symm e]
theorem uU(n:Nat):dU (KG n false) n=Ke n:=by
 unfold dU;refine KH.2 fun k hk=>?_;have:=KF.1 hk;simp[Kd,this]
theorem CL(tk:List Bool)(n:Nat):(dU tk n).length≤n:=by
 have:=Kp (fun k=> !tk.getD k true) (Ke n);rwa [Kw] at this
theorem CN{tk:List Bool}{n i:Nat}(h:i<(dU tk n).length):(dU tk n)[i]<n∧tk.getD (dU tk n)[i] true=false:=by
 have:=Kh h;have h2:=KD.1 this;exact⟨KF.1 h2.1,by simpa using h2.2⟩
theorem zr{n i:Nat}(h:i<n):(Ke n).drop i=i::(Ke n).drop (i+1):=by
 rw[List.drop_eq_getElem_cons (by simpa using h)];simp
end Go.Proofs.YtgbiopfghdilnaaGreatDoor
namespace Go.Proofs.YtgbiopfghdilnaaGreatDoor
open Go.RowKit Go.Sort
attribute [local irreducible] KA
theorem Acc.aBj{h h2:Hp}{n0 nx:Nat}{o:Own}{es:List V}(a:Acc h n0 o es)(hd:aS h nx)(hk:∀m,m<nx→o= .tok m→h2 m=h m):Acc h2 n0 o es:=
 a.imp id fun⟨a,id,b,c,d⟩=>⟨a,id,b,c,by rw[hk id (hd _ _ d) c];exact d⟩
theorem fq(q:Nat→Bool)(n:Nat):kQ q (Ke (n+1))=if kQ q (Ke n)<0 then (if q n=true then (n:Int) else-1) else kQ q (Ke n):=by
 unfold kQ;rw[List.range_succ,List.find?_append];cases h:(Ke n).find? q with
 |some k=>
  simp only[Option.some_or];rw[if_neg or]
 |none=>
  simp only[Option.none_or];cases hq:q n<;>simp[hq]
theorem Ct(q:Nat→Bool){i n:Nat}(hi:i≤n)(h:¬kQ q (Ke i)<0):kQ q (Ke n)=kQ q (Ke i):=by
 induction hi with
 |refl=>rfl
 |step _ ih=>rw[fq,ih,if_neg h]
theorem qk(q:Nat→Bool)(l:List Nat):-1≤kQ q l:=by
 unfold kQ;split<;>omega
def q9(r:Ru)(s:List ByteArray)(tk:List Bool)(k:Nat):Bool:= !tk.getD k true&&fF s (r.b.getD k default)
def p9(r:Ru)(tk:List Bool)(k:Nat):Bool:= !tk.getD k true&&decide ((r.b.getD k default).k=1)
def dI(r:Ru)(s:List ByteArray)(tk:List Bool)(i:Nat):Int:=if kQ (q9 r s tk) (Ke r.b.length)<0 then kQ (p9 r tk) (Ke i) else kQ (q9 r s tk) (Ke r.b.length)
theorem Fd(r:Ru)(s:List ByteArray)(tk:List Bool):dI r s tk r.b.length=pU r s tk:=rfl
theorem AW{r:Ru}{s:List ByteArray}{tk:List Bool}{i:Nat}(h:dI r s tk i<0):dI r s tk (i+1)=if p9 r tk i=true then (i:Int) else-1:=by
 unfold dI at h⊢;split at h
 ·rename_i h1;rw[if_pos h1,fq,if_pos h]
 omega
theorem Du{r:Ru}{s:List ByteArray}{tk:List Bool}{i:Nat}(h:dI r s tk i<0):dI r s tk i=-1:=by
 have h1:=qk (p9 r tk) (Ke i);have h2:=qk (q9 r s tk) (Ke r.b.length);unfold dI at h⊢;split at h
 ·rename_i h1;rw[if_pos h1];omega
 omega
theorem Dv{r:Ru}{s:List ByteArray}{tk:List Bool}{i:Nat}(hi:i≤r.b.length)(h:¬(i<r.b.length∧dI r s tk i<0)):dI r s tk i=pU r s tk:=by
 rw[←Fd];rcases Kq i r.b.length with hl|hg
 ·have h:=fun e=>h ⟨hl,e⟩;unfold dI at h⊢;split at h
  ·rename_i h1;rw[if_pos h1,if_pos h1,Ct _ hi h]
  rename_i h1;rw[if_neg h1,if_neg h1]
 rw[show i=r.b.length by omega]
def qC(r:Ru)(s:List ByteArray)(tk:List Bool):List Nat:=(gI r (dU tk r.b.length).length s (dU tk r.b.length)).map Prod.fst
theorem s9{r:Ru}{s:List ByteArray}{tk:List Bool}(h:pU r s tk<0):qC r s tk=[]:=by
 unfold qC;rcases ji r s tk with⟨_,h1⟩|⟨i,hi,_,h1⟩
 ·rw[zD h1];rfl
 omega
theorem s8{r:Ru}{s:List ByteArray}{tk:List Bool}{k:Nat}(h:pU r s tk=k)(ht:tk.length=r.b.length):qC r s tk=k::qC r (s++(r.b.getD k default).vars) (tk.set k true)∧k<r.b.length∧(dU (tk.set k true) r.b.length).length+1=(dU tk r.b.length).length:=by
 unfold qC;rcases ji r s tk with⟨h1,_⟩|⟨i,hi,h2,h1⟩
 ·omega
 have hk:(dU tk r.b.length)[i]=k:=or;have hs:=CK tk r.b.length i hi ht;have hg:=CN hi;rw[hk] at hs hg;rw[zC h2 hi,hs];have:(dU tk r.b.length).getD i 0=k:=by rw[Kd,Kf hi];exact hk
 rw[this];exact⟨rfl,hg.1,by rw[List.length_eraseIdx_of_lt hi];omega⟩
theorem yz(r:Ru):cO r=qC r [] (KG r.b.length false):=by
 unfold qC;rw[uU,Kw];rfl
theorem um(r:Ru)(hr:bT r=true)(h:Hp):aK Tryz.prog 47 [r.v] h (lst .leaf ((cO r).map kV)):=by
 refine dF (fun L=>bV (fun L=>aT (f:=kV) (fun _=>trivial) _) L) fun h' nx hh=>aB L.bD7 fun hd=>?_;have hd:aS h' nx:=hd;obtain⟨b1,b2,b3⟩:=cM hr;obtain⟨RB,hRB⟩:∃RB,V.agg [.str r.h.r, .sl (.agg 4) r.h.o (r.h.l.map Tr.v), .int .i64 r.g, .int .i64 r.c, .sl (.agg 17) r.o (r.b.map Li.v), .int .i64 r.at_]=RB:=⟨_,rfl⟩;refine ZK ?_;refine aue (e4 Ru.v.eq_1 trs.eq_1 (@jK Li V) jG) ?_
 refine aO (fun q:List Nat×Own×List ByteArray×Own×List Bool=>aD 93 0 [(1, .ptr nx (.agg 6) 0 0),(2, .sl .leaf .nil []),(3, .sl .leaf q.2.1 (q.1.map kV)),(4, .sl .leaf q.2.2.2.1 (q.2.2.1.map V.str)),(5, .rs (nx+1) .leaf 0 r.b.length)])
  (fun q hp nx1=>nx+2≤nx1∧aS hp nx1∧Kb nx h' hp∧hp nx=some (.arr (.agg 6) [.agg [.str r.h.r, .sl (.agg 4) r.h.o (r.h.l.map Tr.v), .int .i64 r.g, .int .i64 r.c, .sl (.agg 17) r.o (r.b.map Li.v), .int .i64 r.at_]])∧hp (nx+1)=some (.arr .leaf (q.2.2.2.2.map V.bool))∧Acc hp (nx+2) q.2.1 (q.1.map kV)∧Acc hp (nx+2) q.2.2.2.1 (q.2.2.1.map V.str)∧(∀m,q.2.1= .tok m→q.2.2.2.1≠ .tok m)∧q.2.2.2.2.length=r.b.length∧cO r=q.1++qC r q.2.2.1 q.2.2.2.2∧q.1.length+(dU q.2.2.2.2 r.b.length).length≤8∧q.2.2.1.length+(dU q.2.2.2.2 r.b.length).length*2097158≤8*2097158)
  (fun q=>(dU q.2.2.2.2 r.b.length).length) ([], .nil,[], .nil,KG r.b.length false) ⟨Zw,by exact dmo hd,by exact kep Hp.same.aAn,by simp only[go_sem,reduceIte,jA,jB,jC,jD,reduceCtorEq,jE,jF],by simp only[List.map_replicate,go_sem,reduceIte,jA,jB,jC,jD,reduceCtorEq,jE,jF], .inl ⟨rfl,rfl⟩, .inl ⟨rfl,rfl⟩,fun m e=>(by cases e),List.length_replicate,yz r,by dsimp only;rw[uU,Kw];simpa using b2,by dsimp only;rw[uU,Kw,jM];omega⟩ (by simp only[WkL,aD,jH,jI,jJ,go_sem,reduceIte,jA,jB,jC,jD,reduceCtorEq,jE,jF]) ?_
 rintro⟨out,oo,s,os,tk⟩ hp nx1 ⟨hnx,hdm,hsm,hbx,hbt,hao,has,hne,htl,aAk,hol,hsl⟩;generalize hQ:aV _ _ _ _ _=Q0;dsimp only at hbt hao has hne htl aAk hol hsl;refine Zk ?_;have n1:nx<nx1:=or;have n2:nx+1<nx1:=or;have bBu:=CL tk r.b.length;have bAi:s.length≤8*2097158:=or;have hw0:IntKind.i64.wrap ((r.b.length:Int)-1)=(r.b.length:Int)-1:=wrp;have hq1:∀j,j<r.b.length→(tk.map V.bool).getD j (.tup [])= .bool (tk.getD j true):=fun j hj=>by
  rw[aJ V.bool tk j or,Kd,Kf or];rfl
 have aD1:(tk.map V.bool).length=r.b.length:=by rw[jK];exact htl
 refine aue (e4 hbx n1 hw0 (@jK Li V)) ?_;generalize hS:kH (lwp Tryz.prog _) _=SQ
 --which may be early
 refine aO (fun i:Nat=>aD 93 0 [(1, .ptr nx (.agg 6) 0 0),(2, .sl .leaf .nil []),(3, .sl .leaf oo (out.map kV)),(4, .sl .leaf os (s.map V.str)),(5, .rs (nx+1) .leaf 0 r.b.length),(6, .int .i64 (kQ (q9 r s tk) ((Ke r.b.length).drop i))),(7, .int .i64 ((i:Int)-1))])
  (fun i hp2 nx2=>i≤r.b.length∧nx1≤nx2∧aS hp2 nx2∧Kb nx1 hp hp2)
  (fun i=>i) r.b.length ⟨Ky _,Zw,hdm,Hp.same.aAn⟩ (by rw[List.drop_of_length_le Zm];simp only[WkL,aD,jH,jI,jJ,kQ,List.find?_nil,go_sem,reduceIte,jA,jB,jC,jD,reduceCtorEq,jE,jF]) ?_
 rintro i hp2 nx2 ⟨hi,aEr,aBX,aAj⟩;generalize hQ2:aV _ _ _ _ _=Q2;refine Zk ?_;have aCW:=(aAj nx n1).trans hbx;have aDK:=(aAj (nx+1) n2).trans hbt;have m1:nx<nx2:=or;have m2:nx+1<nx2:=or;cases i with
 |succ j=>
  have hw:((j+1:Nat):Int)-1=(j:Int):=or;rw[hw];have hc:decide ((j:Int)≥0)=true:=dct;have hc':decide (0≤(j:Int))=true:=dct;have hw2:IntKind.i64.wrap ((j:Int)-1)=(j:Int)-1:=wrp;have hg:=aJ Li.v r.b j hi;have hD:r.b.getD j default=r.b[j]:=by rw[Kd,Kf hi];rfl
  have hdr:kQ (q9 r s tk) ((Ke r.b.length).drop j)=if (!tk.getD j true&&fF s r.b[j])=true then (j:Int) else kQ (q9 r s tk) ((Ke r.b.length).drop (j+1)):=by
   rw[zr hi,Cu,q9,hD]
  have hgt:=hq1 j hi;have hrl:=b3 r.b[j] (Kh _);generalize r.b[j]=l at hg hrl hdr;generalize kQ (q9 r s tk) ((Ke r.b.length).drop (j+1))=B at*;have hvl:=iI hrl;have hf:=Li.aAA l;obtain⟨o1,ho1⟩:=bQ .leaf (l.vars.map V.str);have C1:∀h:Hp,aK Tryz.prog 48 [l.v] h (.sl .leaf o1 (l.vars.map V.str)):=fun h=>ho1▸rF l hrl h;have C2:=fun h=>yV os o1 s l.vars or or h;have C3:=fun h=>du os s or l hrl h;obtain⟨T,hT,hk⟩:∃T,l.v= .agg T∧T.getD 0 (.tup [])= .int .i64 l.k:=⟨_,rfl,rfl⟩;rw[hT] at hg hf C1 C3;have fin:∀(b:Bool) (sl:List V) (hp3:Hp) (nx3:Nat),(!tk.getD j true&&fF s l)=b→nx1≤nx3→aS hp3 nx3→Kb nx1 hp hp3→WkL sl (aD 93 0 [(1, .ptr nx (.agg 6) 0 0),(2, .sl .leaf .nil []),(3, .sl .leaf oo (out.map kV)),(4, .sl .leaf os (s.map V.str)),(5, .rs (nx+1) .leaf 0 r.b.length),(6, .int .i64 (if b=true then (j:Int) else B)),(7, .int .i64 ((j:Int)-1))])→Q2 .normal ⟨sl,hp3,nx3⟩:=by
   intro b sl hp3 nx3 hb h1 h2 h3 h4;rw[←hQ2];refine aF j or ⟨or,h1,h2,h3⟩ ?_;rw[hdr,hb];exact h4
  cases htj:tk.getD j true with
  |true=>
   rw[htj] at hgt fin;refine aue (e13 hc hc' hg hi hf hk aCW aDK m1 m2 hgt aD1 (e4 (@jK Li V) jG hw2 trivial)) ?_;refine fin false _ _ _ rfl or (dmo aBX) (kep aAj) (by simp only[WkL,aD,jH,jI,jJ,go_sem,reduceIte,jA,jB,jC,jD,reduceCtorEq,jE,jF])
  |false=>
   rw[htj] at hgt fin;unfold fF at fin;by_cases k1:l.k=1
   ·have g1:(l.k != 1)=false:=bnf;rw[decide_eq_false (by simpa using k1)] at fin;cases hs3:cU s l with
    |true=>
     rw[hs3] at C3 fin;refine aue (e14 hc hc' hg hi hf hk aCW aDK m1 m2 hgt aD1 g1 (e4 (@jK Li V) jG hw2 trivial)) ?_;refine fin true _ _ _ rfl or (dmo aBX) (kep aAj) (by simp only[WkL,aD,jH,jI,jJ,go_sem,reduceIte,jA,jB,jC,jD,reduceCtorEq,jE,jF])
    |false=>
     rw[hs3] at C3 fin;refine aue (e14 hc hc' hg hi hf hk aCW aDK m1 m2 hgt aD1 g1 (e4 (@jK Li V) jG hw2 trivial)) ?_;refine fin false _ _ _ rfl or (dmo aBX) (kep aAj) (by simp only[WkL,aD,jH,jI,jJ,go_sem,reduceIte,jA,jB,jC,jD,reduceCtorEq,jE,jF])
   have g1:(l.k != 1)=true:=bnt;rw[decide_eq_true (by simpa using k1)] at fin;cases ha:iR s l.vars with
   |true=>
    rw[ha] at C2 fin;refine aue (e14 hc hc' hg hi hf hk aCW aDK m1 m2 hgt aD1 g1 (e4 (@jK Li V) jG hw2 trivial)) ?_;refine fin true _ _ _ rfl or (dmo aBX) (kep aAj) (by simp only[WkL,aD,jH,jI,jJ,go_sem,reduceIte,jA,jB,jC,jD,reduceCtorEq,jE,jF])
   |false=>
    rw[ha] at C2 fin;cases hs3:cU s l with
    |true=>
     rw[hs3] at C3 fin;refine aue (e14 hc hc' hg hi hf hk aCW aDK m1 m2 hgt aD1 g1 (e4 (@jK Li V) jG hw2 trivial)) ?_;refine fin true _ _ _ rfl or (dmo aBX) (kep aAj) (by simp only[WkL,aD,jH,jI,jJ,go_sem,reduceIte,jA,jB,jC,jD,reduceCtorEq,jE,jF])
    |false=>
     rw[hs3] at C3 fin;refine aue (e14 hc hc' hg hi hf hk aCW aDK m1 m2 hgt aD1 g1 (e4 (@jK Li V) jG hw2 trivial)) ?_;refine fin false _ _ _ rfl or (dmo aBX) (kep aAj) (by simp only[WkL,aD,jH,jI,jJ,go_sem,reduceIte,jA,jB,jC,jD,reduceCtorEq,jE,jF])
 |zero=>
  have hc:decide (((0:Nat):Int)-1≥0)=false:=rfl;have hc':decide (0≤((0:Nat):Int)-1)=false:=rfl;refine aue (e2 hc hc') ?_;rw[←hQ2];refine au ?_;rw[←hS];refine aue (e3 aCW m1 (@jK Li V)) ?_;generalize hS3:kH (lwp Tryz.prog _) _=S3;have hb0:kQ (q9 r s tk) (Ke r.b.length)=dI r s tk 0:=by
   unfold dI;split
   ·rename_i aBq;have:=qk (q9 r s tk) (Ke r.b.length);show _=(-1:Int);omega
   rfl
  rw[hb0]
  refine aO (fun i:Nat=>aD 93 0 [(1, .ptr nx (.agg 6) 0 0),(2, .sl .leaf .nil []),(3, .sl .leaf oo (out.map kV)),(4, .sl .leaf os (s.map V.str)),(5, .rs (nx+1) .leaf 0 r.b.length),(6, .int .i64 (dI r s tk i)),(9, .int .i64 i)])
   (fun i hp2 nx2=>i≤r.b.length∧nx1≤nx2∧aS hp2 nx2∧Kb nx1 hp hp2)
   (fun i=>r.b.length-i) 0 ⟨Kx _,aEr,aBX,aAj⟩ (by simp only[WkL,aD,jH,jI,jJ,go_sem,reduceIte,jA,jB,jC,jD,reduceCtorEq,jE,jF]) ?_
  clear aCW aDK m1 m2 aBX aAj aEr;rintro i hp2 nx2 ⟨hi,aEr,aBX,aAj⟩;generalize hQ3:aV _ _ _ _ _=Q3;refine Zk ?_;have aCW:=(aAj nx n1).trans hbx;have aDK:=(aAj (nx+1) n2).trans hbt;have m1:nx<nx2:=or;have m2:nx+1<nx2:=or;by_cases hcc:i<r.b.length∧dI r s tk i<0
  ·obtain⟨hlt,hng⟩:=hcc;have hst:=AW hng;have hn1:=Du hng;have hc:decide ((i:Int)<(r.b.length:Int))=true:=dct;have hw2:IntKind.i64.wrap ((i:Int)+1)=((i+1:Nat):Int):=wrp;have hg:=aJ Li.v r.b i hlt;have hD:r.b.getD i default=r.b[i]:=by rw[Kd,Kf hlt];rfl
   have hgt:=hq1 i hlt;unfold p9 at hst;rw[hD] at hst;generalize r.b[i]=l at hg hst;obtain⟨T,hT,hk⟩:∃T,l.v= .agg T∧T.getD 0 (.tup [])= .int .i64 l.k:=⟨_,rfl,rfl⟩;rw[hT] at hg;have aHS:decide (dI r s tk i<0)=true:=dct;cases htj:tk.getD i true with
   |true=>
    rw[htj] at hgt hst;have hst:dI r s tk (i+1)=dI r s tk i:=by rw[hst,hn1];rfl
    refine aue (e13 hc aHS hg hlt hk aCW aDK m1 m2 hgt aD1 hw2 (e2 (@jK Li V) jG)) ?_;rw[←hQ3];exact aF (i+1) or ⟨hlt,or,dmo aBX,kep aAj⟩ (by simp only[WkL,aD,jH,jI,jJ,hst,go_sem,reduceIte,jA,jB,jC,jD,reduceCtorEq,jE,jF])
   |false=>
    rw[htj] at hgt hst;by_cases k1:l.k=1
    ·have g1:(l.k==1)=true:=bqt;have hst:dI r s tk (i+1)=i:=by rw[hst];simp[k1]
     refine aue (e14 hc aHS hg hlt hk aCW aDK m1 m2 hgt aD1 hw2 g1 (e2 (@jK Li V) jG)) ?_;rw[←hQ3];exact aF (i+1) or ⟨hlt,or,dmo aBX,kep aAj⟩ (by simp only[WkL,aD,jH,jI,jJ,hst,go_sem,reduceIte,jA,jB,jC,jD,reduceCtorEq,jE,jF])
    have g1:(l.k==1)=false:=bqf;have hst:dI r s tk (i+1)=dI r s tk i:=by rw[hst,hn1];simp[k1]
    refine aue (e14 hc aHS hg hlt hk aCW aDK m1 m2 hgt aD1 hw2 g1 (e2 (@jK Li V) jG)) ?_;rw[←hQ3];exact aF (i+1) or ⟨hlt,or,dmo aBX,kep aAj⟩ (by simp only[WkL,aD,jH,jI,jJ,hst,go_sem,reduceIte,jA,jB,jC,jD,reduceCtorEq,jE,jF])
  have hbf:=Dv hi hcc;have key:∀(sl:List V) (hp3:Hp) (nx3:Nat),nx1≤nx3→aS hp3 nx3→Kb nx1 hp hp3→WkL sl (aD 93 0 [(1, .ptr nx (.agg 6) 0 0),(2, .sl .leaf .nil []),(3, .sl .leaf oo (out.map kV)),(4, .sl .leaf os (s.map V.str)),(5, .rs (nx+1) .leaf 0 r.b.length),(6, .int .i64 (pU r s tk))])→S3 .normal ⟨sl,hp3,nx3⟩:=by
   intro sl hp3 nx3 h1 h2 h3 h4;rw[←hS3];refine FA ⟨_,hp3,nx3⟩ ⟨h4,Kc _,Ky _⟩ ?_;clear h4;have bB9:=(h3 nx n1).trans hbx;have bCC:=(h3 (nx+1) n2).trans hbt;have m1:nx<nx3:=or;have m2:nx+1<nx3:=or;have bA1:=hao.aBj hdm fun m hm _=>h3 m hm;have bAz:=has.aBj hdm fun m hm _=>h3 m hm;refine Zk ?_;by_cases hb:pU r s tk<0
   ·have g:decide (pU r s tk<0)=true:=dct;refine aue g ?_;rw[←hQ];refine au ?_;refine aC h' (Hp.same.le (fun m hm=>(h3 m or).trans (hsm m hm)) hd (Kc _)) ⟨?_,Kc _⟩;rw[aAk,s9 hb,Ku];exact mI hao
   obtain⟨k,hk⟩:∃k:Nat,pU r s tk=k:=⟨(pU r s tk).toNat,or⟩;rw[hk];have g:decide ((k:Int)<0)=false:=dcf;obtain⟨q1,q2,q3⟩:=s8 hk htl;have hg:=aJ Li.v r.b k q2;have hD:r.b.getD k default=r.b[k]:=by rw[Kd,Kf q2];rfl
   have hrl:=b3 r.b[k] (Kh _);rw[hD] at q1;generalize r.b[k]=l at hg hrl q1;have hvl:=iI hrl;have hf:=Li.aAA l;obtain⟨o1,ho1⟩:=bQ .leaf (l.vars.map V.str);have C1:∀h:Hp,aK Tryz.prog 48 [l.v] h (.sl .leaf o1 (l.vars.map V.str)):=fun h=>ho1▸rF l hrl h;obtain⟨X,hX⟩:∃X,l.v=X:=⟨_,rfl⟩;rw[hX] at hg hf C1;have hoo:∀m,oo= .tok m→nx+2≤m∧m<nx3:=fun m e=>by
    rcases bA1 with⟨_,e2⟩|⟨_,id,e1,e2,e3⟩
    ·rw[e2] at e;cases e
    rw[e2] at e;injection e with e;subst e;exact⟨e1,h2 _ _ e3⟩
   have bAo:∀m,os= .tok m→nx+2≤m∧m<nx3:=fun m e=>by
    rcases bAz with⟨_,e2⟩|⟨_,id,e1,e2,e3⟩
    ·rw[e2] at e;cases e
    rw[e2] at e;injection e with e;subst e;exact⟨e1,h2 _ _ e3⟩
   have hgt:=hq1 k q2;have hst:∀b,bU .leaf 0 (.bool b) (.bool true)= .bool true:=fun _=>rfl;refine aun (e10 g bCC m1 m2 aD1 q2 hgt hst (@jK Li V) jG) ?_;rw[←List.map_set];obtain⟨H,hH⟩:∃H,(hp3.set (nx+1) (.arr .leaf ((tk.set k true).map V.bool))).set (nx3+1) .tip=H:=⟨_,rfl⟩;rw[hH];have hd4:aS H (nx3+2):=hH▸dmo h2;have hk4:∀m,m<nx3→m≠nx+1→H m=hp3 m:=fun m hm hn=>by rw[←hH];simp only[Ka];rw[if_neg or,if_neg hn]
   have bCO:Acc H (nx+2) oo (out.map kV):=bA1.aBj h2 fun m hm e=>hk4 m hm (by have:=hoo m e;omega);have bCM:Acc H (nx+2) os (s.map V.str):=bAz.aBj h2 fun m hm e=>hk4 m hm (by have:=bAo m e;omega);have bB8:=(hk4 nx m1 or).trans bB9;have bCB:H (nx+1)=some (.arr .leaf ((tk.set k true).map V.bool)):=by rw[←hH];simp only[Ka];rw[if_neg or,if_pos trivial]
   refine iT (n0:=nx+2) rfl bCO Zw hd4 rfl (by simp only[jK,jL,jM];omega) ?_;intro o2 h5 bCN hd5 ho5 hs5 bAl;dsimp only at hd5 ho5 hs5 bAl;have bAw:=(hs5 nx or).trans bB8;have bCA:=(hs5 (nx+1) or).trans bCB;have bCL:=bCM.aBj hd4 fun m hm e=>bAl m hm fun e2=>hne m e2 e;have m5:nx<nx3+2+1:=or;refine aun (e7 bAw hf hg q2 m5 (@jK Li V) jG) ?_;refine iT (n0:=nx+2) rfl bCL Zw (hd5.up Zw) rfl (by simp only[jK];omega) ?_;intro o3 h6 bCK hd6 ho6 hs6 aEm;dsimp only at hd6 ho6 hs6 aEm;refine au ?_;rw[←hQ];refine aF (out++[k],o2,s++l.vars,o3,tk.set k true) Zw ⟨or,by exact dmo hd6,fun m hm=>?_,(hs6 nx or).trans bAw,(hs6 (nx+1) or).trans bCA,?_,by dsimp only;rw[Kg];exact bCK,fun m e1 e2=>?_,by dsimp only;rw[List.length_set];exact htl,by dsimp only;rw[aAk,q1,KI];rfl,by dsimp only;rw[KC,jL,jM];omega,by dsimp only;rw[KC];omega⟩ (by simp only[WkL,aD,jH,jI,jJ,Kg,Kz,Ks,kV,go_sem,reduceIte,jA,jB,jC,jD,reduceCtorEq,jE,jF])
   ·rw[hs6 m or,hs5 m or,hk4 m or or,h3 m or,hsm m hm]
   ·dsimp only;rw[Kg];exact bCN.aBj hd5 fun m hm e=>aEm m or fun e2=>by have h7:=ho5 m e;have h8:=bAo m e2;omega
   have h7:=ho5 m e1;have h8:=ho6 m e2;omega
  have aHS:i<r.b.length→decide (dI r s tk i<0)=false:=fun h=>dcf (fun e=>hcc ⟨h,e⟩);rw[hbf] at aHS⊢;rcases Kq i r.b.length with hlt|hge
  ·have hc:decide ((i:Int)<(r.b.length:Int))=true:=dct;have hng:=aHS hlt;refine aue (e5 hc hng aCW m1 (@jK Li V)) ?_;rw[←hQ3];refine au ?_;exact key _ _ _ aEr aBX aAj (by simp only[WkL,aD,jH,jI,jJ,go_sem,reduceIte,jA,jB,jC,jD,reduceCtorEq,jE,jF])
  have hc:decide ((i:Int)<(r.b.length:Int))=false:=dcf;refine aue (e4 hc aCW m1 (@jK Li V)) ?_;rw[←hQ3];refine au ?_;exact key _ _ _ aEr aBX aAj (by simp only[WkL,aD,jH,jI,jJ,go_sem,reduceIte,jA,jB,jC,jD,reduceCtorEq,jE,jF])
theorem j6(a:Am)(ha:a.l.length≤1000000)(o:Own)(s:List ByteArray)(hs:s.length≤1000000000)(h:Hp):aK Tryz.prog 50 [a.v, .sl .leaf o (s.map V.str)] h (lst .leaf ((oC a s).map kV)):=by
 refine dF (fun L=>bV (fun L=>aT (f:=kV) (fun _=>trivial) _) L) fun h' nx hh=>aB L.bDv fun hd=>?_;obtain⟨ar,ao,ts⟩:=a;have ha:ts.length≤1000000:=ha;refine ZK ?_;have hd:aS h' nx:=hd;refine aue (e3 Am.v.eq_1 trs.eq_1 (@jK Tr V)) ?_
 refine aO (fun q:Nat×Own=>aD 37 0 [(1, .sl .leaf o (s.map V.str)),(2, .ptr nx (.agg 2) 0 0),(4, .sl .leaf .nil []),(5, .sl .leaf q.2 ((gB s 0 (ts.take q.1)).map kV)),(6, .int .i64 q.1)])
  (fun q hp nx1=>q.1≤ts.length∧nx+1≤nx1∧aS hp nx1∧Kb nx h' hp∧hp nx=some (.arr (.agg 2) [.agg [.str ar, .sl (.agg 4) ao (ts.map Tr.v)]])∧Acc hp (nx+1) q.2 ((gB s 0 (ts.take q.1)).map kV))
  (fun q=>ts.length-q.1) (0, .nil) ⟨Kx _,Zw,by exact dmo hd,by exact kep Hp.same.aAn,by simp only[go_sem,reduceIte,jA,jB,jC,jD,reduceCtorEq,jE,jF], .inl ⟨rfl,rfl⟩⟩ (by simp only[WkL,aD,jH,jI,jJ,Kv,gB,go_sem,reduceIte,jA,jB,jC,jD,reduceCtorEq,jE,jF]) ?_
 rintro⟨i,oo⟩ hp nx1 ⟨hi,hnx,hdm,hsm,hbx,aAM⟩;generalize hQ:aV _ _ _ _ _=Q0;dsimp only at hi aAM;refine Zk ?_;have n1:nx<nx1:=or;rcases Kq i ts.length with hlt|hge
 ·have hc:decide ((i:Int)<(ts.length:Int))=true:=dct;have hg:=aJ Tr.v ts i hlt;have hw:IntKind.i64.wrap ((i:Int)+1)=((i+1:Nat):Int):=wrp;have aAT:gB s 0 (ts.take (i+1))=gB s 0 (ts.take i)++(if (decide (ts[i].x.size=0)||bP ts[i].x s)=true then [i] else []):=by
   rw[Kj hlt,xK,Km,Nat.min_eq_left or,Nat.zero_add]
  have hlen:(gB s 0 (ts.take i)).length≤1000000:=by
   have:=oA s (ts.take i) 0;rw[Km] at this;omega
  generalize gB s 0 (ts.take i)=W at*;generalize ts[i]=T at hg aAT;have C1:=fun h=>kT o s hs T.x h;have hml:(W.map kV).length=W.length:=jK ..;have hTx:T.v.cell 0= .str T.x:=rfl;generalize T.v=X at*;by_cases ht:(decide (T.x.size=0)||bP T.x s)=true
  ·rw[if_pos ht] at aAT;by_cases h1:T.x.size=0
   ·have h1:((T.x.size:Int)==0)=true:=bqt;refine aue (e13 hc hg hlt hTx h1 hw (@jK Tr V) jG hlen hml hbx n1 trivial) ?_;rw[←hQ];exact aF (i+1,_) Zw ⟨hlt,or,dmo hdm,rC hsm aAM,Fq aAM hbx or n1,by dsimp only;rw[aAT,Kg];exact Acc.new _ Zm or⟩ (by simp only[WkL,aD,jH,jI,jJ,aAT,Kg,Kz,Ks,kV,go_sem,reduceIte,jA,jB,jC,jD,reduceCtorEq,jE,jF])
   have h2:bP T.x s=true:=by rw[decide_eq_false h1] at ht;simpa using ht
   have h1:((T.x.size:Int)==0)=false:=bqf;rw[h2] at C1;refine aue (e13 hc hg hlt hTx h1 hw (@jK Tr V) jG hlen hml hbx n1 trivial) ?_;rw[←hQ];exact aF (i+1,_) Zw ⟨hlt,or,dmo hdm,rC hsm aAM,Fq aAM hbx or n1,by dsimp only;rw[aAT,Kg];exact Acc.new _ Zm or⟩ (by simp only[WkL,aD,jH,jI,jJ,aAT,Kg,Kz,Ks,kV,go_sem,reduceIte,jA,jB,jC,jD,reduceCtorEq,jE,jF])
  rw[if_neg ht,Ku] at aAT;simp only[Bool.or_eq_true,not_or,Bool.not_eq_true,decide_eq_false_iff_not] at ht;have h1:((T.x.size:Int)==0)=false:=bqf (by have:=ht.1;omega);rw[ht.2] at C1;refine aue (e13 hc hg hlt hTx h1 hw (@jK Tr V) jG hlen hml hbx n1 trivial) ?_;rw[←hQ];exact aF (i+1,oo) Zw ⟨hlt,or,dmo hdm,kep hsm,by simp only[hbx,n1,go_sem,reduceIte,jA,jB,jC,jD,reduceCtorEq,jE,jF],by dsimp only;rw[aAT];exact acc aAM hdm⟩ (by simp only[WkL,aD,jH,jI,jJ,aAT,go_sem,reduceIte,jA,jB,jC,jD,reduceCtorEq,jE,jF])
 have hc:decide ((i:Int)<(ts.length:Int))=false:=dcf;rw[Ko or] at aAM⊢;refine aue (e4 hc hbx n1 (@jK Tr V)) ?_;rw[←hQ];refine au ?_;exact aC h' (hsm.le hd (Kc _)) ⟨mI aAM,Kc _⟩
end Go.Proofs.YtgbiopfghdilnaaGreatDoor
namespace Go.Proofs.YtgbiopfghdilnaaGreatDoor
open Go.RowKit Go.Sort
theorem pq{l:Li}(h:bG l=true)(k:Nat)(hv:List ByteArray):(gU l k hv).k=l.k:=by
 unfold gU;dsimp only;rcases qI h with e|e|e<;>rw[e]<;>rfl
theorem sA(r:Ru):∀(ks:List Nat) (hv:List ByteArray) (s:PS),s∈fK r ks hv→∃(i:Nat) (h:i<ks.length),s=gU (r.b.getD ks[i] default) ks[i] (cW r (ks.take i) hv)
 | [],hv,s,h=>by cases h
 |k::ks,hv,s,h=>by
  rcases List.mem_cons.1 h with rfl|h
  ·exact⟨0,Zm,rfl⟩
  obtain⟨i,hi,e⟩:=sA r ks _ s h;exact⟨i+1,by simpa using hi,e⟩
def GB(r:Ru)(s:PS):Prop:=s.i<r.b.length∧s.hv.length≤1000000000∧s.wt.length≤1000000000∧s.ky.length≤1000000000
theorem FI{r:Ru}(hr:bT r=true):(lH r).length≤8∧∀s∈lH r,GB r s:=by
 obtain⟨b1,b2,b3⟩:=cM hr;have hol:(cO r).length≤8:=by
  unfold cO nM;rw[KE];exact KB (mK ..) b2
 refine⟨by unfold lH;rw[sB];exact hol,fun s hs=>?_⟩;have aCh:=vY r;obtain⟨i,hi,rfl⟩:=sA r _ _ s hs;have hk:=aCh _ (Kh hi);have hD:r.b.getD (cO r)[i] default=r.b[(cO r)[i]]:=by rw[Kd,Kf hk];rfl
 have hrl:=b3 _ (Kh hk);have h1:=pM r b3 ((cO r).take i) [] fun k hk=>aCh k (Kt hk);have h2:((cO r).take i).length*2097158≤8*2097158:=Kk _ (by rw[Km];omega);simp only[List.length_nil] at h1;have h3:=jU r.b[(cO r)[i]].ts (cW r ((cO r).take i) []);have h4:=fY hrl;refine⟨hk,by unfold gU;dsimp only;omega,by unfold gU;dsimp only;rw[hD];omega,?_⟩;unfold gU;dsimp only;rw[hD];split
 ·have:=oA (cW r ((cO r).take i) []) r.b[(cO r)[i]].a.l 0;have h5:=(iL hrl).1;unfold oC;omega
 simp
end Go.Proofs.YtgbiopfghdilnaaGreatDoor
namespace Go.Proofs.YtgbiopfghdilnaaGreatDoor
open Go.RowKit Go.Sort
attribute [local irreducible] KA
def PS.v9(o:Own)(s:PS):V:= .agg [.int .i64 s.k, .int .i64 s.i, .sl .leaf o (s.hv.map V.str), .sl .leaf .free (s.wt.map V.str),lst .leaf (s.ky.map kV)]
def o9(i:Nat):Own:=if i=0 then .nil else .free
def vs9(l:List PS):List V:=l.mapIdx fun i s=>s.v9 (o9 i)
theorem Fw(l:List PS)(s:PS):vs9 (l++[s])=vs9 l++[s.v9 (o9 l.length)]:=by unfold vs9;rw[List.mapIdx_concat]
theorem cC(l:List PS):(vs9 l).length=l.length:=by unfold vs9;exact List.length_mapIdx
theorem Eb(L:Nat→Prop)(i:Nat)(s:PS):(s.v9 (o9 i)).names L:=by
 have h:∀n,o9 i= .tok n→L n:=fun n e=>by unfold o9 at e;split at e<;>cases e
 exact⟨trivial,trivial,⟨h,aT (f:=V.str) (fun _=>trivial) _⟩,⟨fun n e=>(by cases e),aT (f:=V.str) (fun _=>trivial) _⟩,bV (fun L=>aT (f:=kV) (fun _=>trivial) _) L,trivial⟩
theorem Cp(L:Nat→Prop)(l:List PS):bI L (vs9 l):=by
 refine gL.2 fun x hx=>?_;unfold vs9 at hx;obtain⟨i,hi,rfl⟩:=List.mem_mapIdx.1 hx;exact Eb L i _
theorem A1{h:Hp}{n0:Nat}{o:Own}{k:Sh}{es:List V}(a:Acc h n0 o es):(V.sl k o es).loose=lst k es:=by
 rcases a with⟨rfl,rfl⟩|⟨h1,id,_,rfl,_⟩
 ·rfl
 cases es with
 |nil=>exact absurd rfl h1
 |cons a b=>rfl
def FN(r:Ru):List PS×Int:=if bT r=false then ([],2) else if cL r (dY r) false≠ [] then ([],8) else (lH r,0)
def FM(r:Ru):V:= .tup [lst (.agg 5) (vs9 (FN r).1), .int .i64 (FN r).2]
theorem yi(l:Li):l.vars.Nodup:=sD List.nodup_nil
theorem EO{hv vs:List ByteArray}{j:Nat}(hn:vs.Nodup)(hj:j<vs.length):bP vs[j] (hv++(vs.take j).filter fun v=> !bP v hv)=bP vs[j] hv:=by
 have h1:vs[j]∉vs.take j:=by
  have h2:(vs.take (j+1)).Nodup:=(List.take_sublist _ _).nodup hn;rw[Kj hj,List.nodup_append] at h2;exact fun h=>h2.2.2 _ h _ (List.mem_singleton.2 rfl) rfl
 rw[Bool.eq_iff_iff,dE,dE,List.mem_append,KD];exact⟨fun h=>h.elim id fun h=>absurd h.1 h1, .inl⟩
theorem FL(r:Ru)(hs:r.sm)(h:Hp):aK Tryz.prog 14 [r.v] h (FM r):=by
 refine bK (fun L=>⟨bV (fun L=>Cp L _) L,trivial,trivial⟩) fun h' nx hh=>aB L.g8z fun hd=>?_;have hd:aS h' nx:=hd;have C1:=fun h=>Cz r hs h;have C2:=fun hr h=>um r hr h;refine ZK ?_;unfold FM FN;by_cases hm0:ql r=0;rotate_left
 ·have hof:(if bT r=false then (([]:List PS),(2:Int)) else if cL r (dY r) false≠ [] then ([],8) else (lH r,0))=([],ql r):=by
   unfold ql at hm0⊢;split
   ·rfl
   rename_i e;rw[if_neg e] at hm0;split
   ·rfl
   rename_i e2;rw[if_neg e2] at hm0;exact absurd rfl hm0
  rw[hof];have hne:(ql r != 0)=true:=bnt;generalize ql r=N at*;have hf:r.v.fits (.agg 6)=true:=rfl;obtain⟨X,hX⟩:∃X,r.v=X:=⟨_,rfl⟩;rw[hX] at C1 hf⊢;refine aue (e2 hf hne) ?_;exact aM h' (leo hd) ⟨rfl,leo hd⟩
 have hrr:bT r=true:=by
  cases e:bT r with
  |true=>rfl
  |false=>unfold ql at hm0;rw[e,if_pos rfl] at hm0;cases hm0
 have hsv:cL r (dY r) false=[]:=by
  unfold ql at hm0;rw[hrr,if_neg Zm] at hm0;split at hm0
  ·cases hm0
  rename_i e;exact Classical.not_not.1 e
 rw[hrr,if_neg Zm,hsv,if_neg Zm];obtain⟨b1,b2,b3⟩:=cM hrr
 replace C2:=C2 hrr
 obtain⟨oo,hoo⟩:=bQ .leaf ((cO r).map kV);rw[hoo] at C2;rw[hm0] at C1;have hol:(cO r).length≤8:=by
  unfold cO nM;rw[jK];exact KB (mK ..) b2
 have hz:((0:Int) != 0)=false:=rfl;simp only[Ru.v] at C1 C2;refine aue (e4 Ru.v.eq_1 trs.eq_1 (@jK Nat V) hz) ?_;have aCh:=vY r;have aFR:lH r=fK r (cO r) []:=rfl;rw[aFR];generalize cO r=O at*;have hbl:∀i,(cW r (O.take i) []).length≤16777264:=fun i=>by
  have h1:=pM r b3 (O.take i) [] fun k hk=>aCh k (Kt hk);have h2:(O.take i).length*2097158≤8*2097158:=Kk _ (by rw[Km];omega);simp only[jM] at h1;omega
 clear C1 C2
 refine aO (fun q:Nat×Own=>aD 86 0 [(1, .ptr nx (.agg 6) 0 0),(2, .sl (.agg 5) .nil []),(3, .int .i64 0),(5, .sl (.agg 5) q.2 (vs9 (fK r (O.take q.1) []))),(6, .sl .leaf (o9 q.1) ((cW r (O.take q.1) []).map V.str)),(7, .sl .leaf oo (O.map kV)),(8, .int .i64 q.1)])
  (fun q hp nx1=>q.1≤O.length∧nx+1≤nx1∧aS hp nx1∧Kb nx h' hp∧hp nx=some (.arr (.agg 6) [.agg [.str r.h.r, .sl (.agg 4) r.h.o (r.h.l.map Tr.v), .int .i64 r.g, .int .i64 r.c, .sl (.agg 17) r.o (r.b.map Li.v), .int .i64 r.at_]])∧Acc hp (nx+1) q.2 (vs9 (fK r (O.take q.1) [])))
  (fun q=>O.length-q.1) (0, .nil) ⟨Kx _,Zw,by exact dmo hd,by exact kep Hp.same.aAn,by simp only[go_sem,reduceIte,jA,jB,jC,jD,reduceCtorEq,jE,jF], .inl ⟨rfl,rfl⟩⟩ (by simp only[WkL,aD,jH,jI,jJ,Kv,fK,cW,vs9,List.mapIdx_nil,o9,go_sem,reduceIte,jA,jB,jC,jD,reduceCtorEq,jE,jF]) ?_
 rintro⟨i,oS⟩ hp nx1 ⟨hi,hnx,hdm,hsm,hb0,haS⟩;generalize hQ:aV _ _ _ _ _=Q0;dsimp only at hi haS;refine Zk ?_;have n1:nx<nx1:=or;rcases Kq i O.length with hlt|hge;rotate_left
 ·have hc:decide ((i:Int)<(O.length:Int))=false:=dcf;rw[Ko or] at haS⊢;refine aue (e2 hc (@jK Nat V)) ?_;rw[←hQ];refine au ?_;refine aM h' (hsm.le hd (Kc _)) ⟨?_,Kc _⟩;have:=A1 (k:= .agg 5) haS;exact congrArg (fun x=>V.tup [x, .int .i64 0]) this
 have hc:decide ((i:Int)<(O.length:Int))=true:=dct;have hg:(O.map kV).getD i (.tup [])= .int .i64 O[i]:=aJ kV O i hlt;have hw:IntKind.i64.wrap ((i:Int)+1)=((i+1:Nat):Int):=wrp;have hkb:=aCh O[i] (Kh _);have hpa:fK r (O.take (i+1)) []=fK r (O.take i) []++[gU (r.b.getD O[i] default) O[i] (cW r (O.take i) [])]:=by rw[Kj hlt,xV]
 have hba:cW r (O.take (i+1)) []=nmL (cW r (O.take i) []) (r.b.getD O[i] default).ts:=by rw[Kj hlt,uZ]
 have hvl:=hbl i;have hpi:(fK r (O.take i) []).length=i:=by rw[sB,Km];omega
 generalize cW r (O.take i) []=hv at*;generalize fK r (O.take i) []=ps at*;have hD:r.b.getD O[i] default=r.b[O[i]]:=by rw[Kd,Kf hkb];rfl
 have hg2:=aJ Li.v r.b O[i] hkb;have hrl:=b3 r.b[O[i]] (Kh _);rw[hD] at hpa hba;generalize r.b[O[i]]=l at hg2 hrl hpa hba;generalize O[i]=k at hg hkb hg2 hpa;have hkk:=pq hrl k hv;have hlv:=iI hrl;have hf:=Li.aAA l;obtain⟨o1,ho1⟩:=bQ .leaf (l.vars.map V.str);have C1:∀h:Hp,aK Tryz.prog 48 [l.v] h (.sl .leaf o1 (l.vars.map V.str)):=fun h=>ho1▸rF l hrl h;obtain⟨T,hT,hk0,hat⟩:∃T,l.v= .agg T∧T.getD 0 (.tup [])= .int .i64 l.k∧(T.drop 1).take 2=[.str l.a.r,trs l.a.o l.a.l]:=⟨_,rfl,rfl,rfl⟩;rw[hT] at hg2 hf C1;refine aun (e11 hc hg hlt hb0 n1 hg2 hf hkb hk0 (@jK Nat V) (e2 (@jK Li V) jG)) ?_;generalize hH:Ka _ _ _=H;have hk1:∀m,m<nx1→H m=hp m:=fun m hm=>by rw[←hH];simp only[Ka];rw[if_neg or,if_neg or,if_neg or,if_neg or,if_neg or]
 have hb8:H (nx1+8)=some (.arr (.agg 17) [.agg T]):=by rw[←hH];simp only[go_sem,reduceIte,jA,jB,jC,jD,reduceCtorEq,jE,jF]
 have bCI:H (nx1+18)=some (.arr (.agg 5) [.agg [.int .i64 l.k, .int .i64 k, .sl .leaf (o9 i) (hv.map V.str), .sl .leaf .nil [], .sl .leaf .nil []]]):=by rw[←hH];simp only[go_sem,reduceIte,jA,jB,jC,jD,reduceCtorEq,jE,jF]
 have bCG:H (nx1+20)=some .tip:=by rw[←hH];simp only[go_sem,reduceIte,jA,jB,jC,jD,reduceCtorEq,jE,jF]
 have hdH:aS H (nx1+21):=by rw[←hH];exact dmo hdm
 clear hH;refine yC (id:=nx1+20) rfl bCG rfl (by simp only[jK,jM];omega) ?_;refine Zn ?_;have hof:(V.sl .leaf (o9 i) (hv.map V.str)).aAE=true:=rfl;refine aue (e5 hb8 hf bCI (@jK ByteArray V) hc) ?_;have hwt:nmL hv l.ts=hv++l.vars.filter fun v=> !bP v hv:=uq hv l;have hnd:=yi l;generalize hSQ:kH (lwp Tryz.prog _) _=SQ
 refine aO (fun q:Nat×Nat=>aD 86 0 [(1, .ptr nx (.agg 6) 0 0),(2, .sl (.agg 5) .nil []),(3, .int .i64 0),(5, .sl (.agg 5) oS (vs9 ps)),(6, .sl .leaf (o9 i) (hv.map V.str)),(7, .sl .leaf oo (O.map kV)),(8, .int .i64 i),(9, .ptr (nx1+8) (.agg 17) 0 0),(10, .ptr (nx1+18) (.agg 5) 0 0),(11, .sl .leaf o1 (l.vars.map V.str)),(12, .int .i64 q.1)])
  (fun q hp3 nx3=>q.1≤l.vars.length∧nx1+22≤nx3∧aS hp3 nx3∧(∀m,m<nx1+18→hp3 m=H m)∧hp3 (nx1+18)=some (.arr (.agg 5) [.agg [.int .i64 l.k, .int .i64 k, .sl .leaf (o9 i) (hv.map V.str), .sl .leaf (.tok q.2) ((hv++(l.vars.take q.1).filter fun v=> !bP v hv).map V.str), .sl .leaf .nil []]])∧nx1+21≤q.2∧hp3 q.2=some .tip)
  (fun q=>l.vars.length-q.1) (0,nx1+21) ⟨Kx _,Zw,by exact dmo hdH,fun m hm=>by simp only[Ka,Ki];rw[if_neg or,if_neg or,if_neg or],by simp only[Kv,List.filter_nil,Ku,go_sem,reduceIte,jA,jB,jC,jD,reduceCtorEq,jE,jF],Zw,by simp only[go_sem,reduceIte,jA,jB,jC,jD,reduceCtorEq,jE,jF]⟩ (by simp only[WkL,aD,jH,jI,jJ,jK,go_sem,reduceIte,jA,jB,jC,jD,reduceCtorEq,jE,jF]) ?_
 rintro⟨j,id⟩ hp3 nx3 ⟨hj,aRq,aEJ,hk3,hb9,hid,hti⟩;generalize hQ2:aV _ _ _ _ _=Q2;dsimp only at hj hb9 hid hti;refine Zk ?_;have n9:nx1+18<nx3:=or;have f9:(nx1+18=id)=False:=fls;have aHV:=aEJ _ _ hti;rcases Kq j l.vars.length with hjl|hjg
 ·have hc2:decide ((j:Int)<(l.vars.length:Int))=true:=dct;have hgv:=aJ V.str l.vars j hjl;have hw2:IntKind.i64.wrap ((j:Int)+1)=((j+1:Nat):Int):=wrp;have htk:hv++(l.vars.take (j+1)).filter (fun v=> !bP v hv)=(hv++(l.vars.take j).filter fun v=> !bP v hv)++(if bP l.vars[j] hv=true then [] else [l.vars[j]]):=by
   rw[Kj hjl,List.filter_append,KI];congr 2;cases hq:bP l.vars[j] hv<;>simp[hq]
  have hwl:(hv++(l.vars.take j).filter fun v=> !bP v hv).length≤100000000:=by
   rw[KC];have:=Kp (fun v=> !bP v hv) (l.vars.take j);rw[Km] at this;omega
  have hha:=EO (hv:=hv) hnd hjl;generalize (hv++(l.vars.take j).filter fun v=> !bP v hv)=W at*;generalize l.vars[j]=x at*;have D1:∀h,aK Tryz.prog 49 [.sl .leaf (.tok id) (W.map V.str), .str x] h (.bool (bP x hv)):=fun h=>hha▸kT (.tok id) W or x h;have hml:(W.map V.str).length=W.length:=jK ..;cases hb:bP x hv with
  |true=>
   rw[hb] at D1 htk;rw[if_pos rfl,Ku] at htk;refine aun (e8 hc2 hgv hjl (@jK ByteArray V) jG hw2 hb9 n9) ?_;rw[←hQ2];exact aF (j+1,id) Zw ⟨hjl,or,dmo aEJ,hk3,by dsimp only;rw[htk];exact hb9,hid,hti⟩ (by simp only[WkL,aD,jH,jI,jJ,go_sem,reduceIte,jA,jB,jC,jD,reduceCtorEq,jE,jF])
  |false=>
   rw[hb] at D1 htk;rw[if_neg Zm] at htk;have hco:∀aAF aAN,oT hp3 (nx3+8) aAF aAN [none,none,none,none,none,none,none] id .tip:=fun _ _=>yR or hti (by simp[dD]);refine aue (e13 hc2 hgv hjl (@jK ByteArray V) jG hw2 hb9 n9 hml hwl f9 hti hco) ?_;rw[←hQ2];refine aF (j+1,nx3+15) Zw ⟨hjl,or,dmo aEJ,fun m hm=>?_,?_,Zw,by simp only[(fls:(nx3+15=id)=False),(fls:(nx3=nx1+3)=False),go_sem,reduceIte,jA,jB,jC,jD,reduceCtorEq,jE,jF]⟩ (by simp only[WkL,aD,jH,jI,jJ,go_sem,reduceIte,jA,jB,jC,jD,reduceCtorEq,jE,jF])
   ·simp only[Ka,Ki];rw[if_neg or,if_neg or,if_neg or,if_neg or];exact hk3 m hm
   dsimp only;rw[htk,Kg,Kz,Ks];simp only[go_sem,reduceIte,jA,jB,jC,jD,reduceCtorEq,jE,jF]
 have hc2:decide ((j:Int)<(l.vars.length:Int))=false:=dcf;refine aue (e2 hc2 (@jK ByteArray V)) ?_;rw[←hQ2];refine au ?_;rw[Ko or,←hwt] at hb9;rw[←hSQ];refine fX (s5 (n:=nx1+18) (k:= .agg 5) hb9) ?_;simp only[Kz,Ks];have hlo:(V.agg [.int .i64 l.k, .int .i64 k, .sl .leaf (o9 i) (hv.map V.str), .sl .leaf (.tok id) ((nmL hv l.ts).map V.str), .sl .leaf .nil []]).loose= .agg [.int .i64 l.k, .int .i64 k, .sl .leaf (o9 i) (hv.map V.str), .sl .leaf .free ((nmL hv l.ts).map V.str), .sl .leaf .nil []]:=by
  unfold o9;split<;>rfl
 rw[hlo];have hc0:=((hk3 nx or).trans (hk1 nx n1)).trans hb0;have hc8:=(hk3 (nx1+8) or).trans hb8;have aHk:Kb nx h' hp3:=fun m hm=>by rw[hk3 m or,hk1 m or];exact hsm m hm
 have aRV:Acc hp3 (nx+1) oS (vs9 ps):=haS.aBj hdm fun m hm _=>by rw[hk3 m or,hk1 m or]
 have m1:nx<nx3:=or;have m4:nx1+8<nx3:=or;have k1:(nx1+8=nx1+18)=False:=fls;have k2:(nx=nx1+18)=False:=fls;clear hQ2 hSQ hk3 hk1;have hPS:(gU l k hv).v9 (o9 i)= .agg [.int .i64 l.k, .int .i64 k, .sl .leaf (o9 i) (hv.map V.str), .sl .leaf .free ((nmL hv l.ts).map V.str),lst .leaf ((if l.k=1∨l.k=2 then oC l.a hv else []).map kV)]:=by
  show V.agg [.int .i64 (gU l k hv).k,_,_,_,_]=_;rw[hkk];rfl
 have hvs:=Fw ps (gU l k hv);rw[←hpa,hpi] at hvs;have ho9:o9 (i+1)= .free:=rfl;have bAe:(vs9 ps).length≤8:=by rw[cC];omega
 by_cases hk3:l.k=3
 ·have g3:(l.k != 3)=false:=bnf;rw[if_neg or,Ks,bw] at hPS;refine aun (e11 hc0 hc8 m1 m4 n9 k1 k2 g3 bAe (@jK ByteArray V) hk0) ?_;generalize hH:Ka _ _ _=H5;have hk5:∀m,m<nx3→m≠nx1+18→H5 m=hp3 m:=fun m hm hn=>by rw[←hH];simp only[Ka];repeat rw[if_neg or]
  have hb5:H5 (nx1+18)=some (.arr (.agg 5) [(gU l k hv).v9 (o9 i)]):=by rw[←hH,hPS];simp only[n9,go_sem,reduceIte,jA,jB,jC,jD,reduceCtorEq,jE,jF]
  have hd5:aS H5 (nx3+1):=by rw[←hH];exact dmo aEJ
  clear hH;have hte:∀m,oS= .tok m→m≠nx1+18:=fun m e e2=>by
   rcases aRV with⟨_,e3⟩|⟨_,id,_,e3,e4⟩
   ·rw[e3] at e;cases e
   rw[e3] at e;injection e with e;rw[e,e2,hb9] at e4;cases e4
  rw[←hPS];refine iT (k:= .agg 5) (n0:=nx+1) rfl (aRV.aBj aEJ fun m hm e=>hk5 m hm (hte m e)) Zw hd5 rfl (by simp only[jL,jM];omega) ?_;intro o6 h6 ha6 hd6 ho6 hs6 aEm;dsimp only at hd6 ho6 hs6 aEm;have hb6:=(aEm (nx1+18) or fun e=>hte _ e rfl).trans hb5;rw[hPS] at hb6;have n8:nx1+18<nx3+3:=or;have n7:nx1+18<nx3+2:=or;rw[hPS];refine aue (e4 hb6 n8 n7 hw) ?_;rw[←hQ];refine aF (i+1,o6) Zw ⟨hlt,or,by exact dmo hd6,fun m hm=>?_,?_,by dsimp only;rw[hvs];exact ha6⟩ (by simp only[WkL,aD,jH,jI,jJ,hvs,hPS,hba,ho9,go_sem,reduceIte,jA,jB,jC,jD,reduceCtorEq,jE,jF])
  ·rw[hs6 m or,hk5 m or or,aHk m hm]
  rw[hs6 nx or,hk5 nx or or];exact hc0
 have g3:(l.k != 3)=true:=bnt;have aHU:l.k=1∨l.k=2:=by have:=qI hrl;omega
 have hlp:aX (.agg 2) 1 (.agg T)= .agg [.str l.a.r,trs l.a.o l.a.l]:=congrArg V.agg hat
 obtain⟨o5,ho5⟩:=bQ .leaf ((oC l.a hv).map kV);have C2:=fun h=>j6 l.a (by
  unfold bG at hrl;rw[if_pos aHU] at hrl;unfold fO at hrl;simp only[Bool.and_eq_true,decide_eq_true_eq] at hrl;have:=hrl.1.1.1.2;omega) (o9 i) hv or h
 simp only[Am.v,trs] at C2;rw[ho5] at C2;rw[if_pos aHU,ho5] at hPS;refine aun (e13 hc0 hc8 m1 m4 n9 k1 k2 g3 bAe (@jK ByteArray V) hlp trs.eq_1 hk0) ?_;generalize hH:Ka _ _ _=H5;have hk5:∀m,m<nx3→m≠nx1+18→H5 m=hp3 m:=fun m hm hn=>by rw[←hH];simp only[Ka];repeat rw[if_neg or]
 have hb5:H5 (nx1+18)=some (.arr (.agg 5) [(gU l k hv).v9 (o9 i)]):=by rw[←hH,hPS];simp only[n9,go_sem,reduceIte,jA,jB,jC,jD,reduceCtorEq,jE,jF]
 have hd5:aS H5 (nx3+2):=by rw[←hH];exact dmo aEJ
 clear hH;have hte:∀m,oS= .tok m→m≠nx1+18:=fun m e e2=>by
  rcases aRV with⟨_,e3⟩|⟨_,id,_,e3,e4⟩
  ·rw[e3] at e;cases e
  rw[e3] at e;injection e with e;rw[e,e2,hb9] at e4;cases e4
 rw[←hPS];refine iT (k:= .agg 5) (n0:=nx+1) rfl (aRV.aBj aEJ fun m hm e=>hk5 m hm (hte m e)) Zw hd5 rfl (by simp only[jL,jM];omega) ?_;intro o6 h6 ha6 hd6 ho6 hs6 aEm;dsimp only at hd6 ho6 hs6 aEm;have hb6:=(aEm (nx1+18) or fun e=>hte _ e rfl).trans hb5;rw[hPS] at hb6;have n8:nx1+18<nx3+3:=or;have n7:nx1+18<nx3+2:=or;rw[hPS];refine aue (e4 hb6 n8 n7 hw) ?_;rw[←hQ];refine aF (i+1,o6) Zw ⟨hlt,or,by exact dmo hd6,fun m hm=>?_,?_,by dsimp only;rw[hvs];exact ha6⟩ (by simp only[WkL,aD,jH,jI,jJ,hvs,hPS,hba,ho9,go_sem,reduceIte,jA,jB,jC,jD,reduceCtorEq,jE,jF])
 ·rw[hs6 m or,hk5 m or or,aHk m hm]
 rw[hs6 nx or,hk5 nx or or];exact hc0
end Go.Proofs.YtgbiopfghdilnaaGreatDoor
namespace Go.Proofs.YtgbiopfghdilnaaGreatDoor
open Go.RowKit Go.Sort
theorem Ex.aFJ(e:Ex):e.cp.kids=e.kids.map Ex.cp:=by
 obtain⟨op,t,o,ks⟩:=e;exact Ex.aA8 ks
theorem Ex.aBU:∀(n:Nat) (e:Ex),SizeOf.sizeOf e≤n→e.cp.ts=e.ts
 |0, .mk op t o ks,h=>by simp at h
 |n+1, .mk op t o ks,h=>by
  have hk:∀e∈ks,SizeOf.sizeOf e≤n:=fun e he=>by
   have:=List.sizeOf_lt_of_mem he;simp only[Ex.mk.sizeOf_spec] at h;omega
  rw[Ex.aBr,Ex.aBr,Ex.aFJ];show(if ks.map Ex.cp=[] then [t] else (ks.map Ex.cp).flatMap Ex.ts)=if ks=[] then [t] else ks.flatMap Ex.ts
  rw[KJ];by_cases h0:ks=[]
  ·subst h0;rfl
  rw[if_neg (by simpa using h0),if_neg h0,KK,KK];congr 1;exact List.map_congr_left fun e he=>Ex.aBU n e (hk e he)
theorem Li.aBU(l:Li):l.cp.ts=l.ts:=by
 show l.a.l++(l.x.cp.ts++l.y.cp.ts)=_;rw[Ex.aBU _ l.x (Ky _),Ex.aBU _ l.y (Ky _)];rfl
theorem Li.aA3(l:Li):l.cp.vars=l.vars:=by unfold Li.vars;rw[Li.aBU]
theorem ph(e:Ex):cA e.cp=cA e:=by
 obtain⟨op,t,o,ks⟩:=e;have:(Ex.cps ks=[])=(ks=[]):=by rw[Ex.aA8];simp
 show(if op≠0∨Ex.cps ks≠ [] then _ else t.x)=if op≠0∨ks≠ [] then _ else t.x
 simp only[ne_eq,this]
theorem th(s:List ByteArray)(l:Li):cU s l.cp=cU s l:=by
 have h1:cA l.cp.x=cA l.x:=ph l.x;have h2:cA l.cp.y=cA l.y:=ph l.y;have h3:l.cp.x.ts=l.x.ts:=Ex.aBU _ l.x (Ky _);have h4:l.cp.y.ts=l.y.ts:=Ex.aBU _ l.y (Ky _);unfold cU;rw[h1,h2,h3,h4];rfl
theorem Dj(s:List ByteArray)(l:Li):fF s l.cp=fF s l:=by
 unfold fF;rw[th,Li.aA3];rfl
theorem Ru.aA3(r:Ru):r.cp.vars=r.vars:=by
 show(r.b.map Li.cp).foldl (fun o l=>nmL o l.ts) (nmL [] r.h.l)=_;rw[List.foldl_map];simp only[Li.aBU];rfl
theorem FT(b:List Li)(s:List ByteArray):aAh (b.map Li.cp) s=aAh b s:=by
 unfold aAh;rw[List.filter_map,KE];congr 2;funext l;simp only[Function.comp,Li.aA3]
theorem FG(b:List Li):kI (b.map Li.cp)=kI b:=by
 unfold kI;rw[KJ];congr 1;funext l;rw[Li.aA3];rfl
theorem pd(b:List Li):∀(n:Nat) (s:List ByteArray),eJ (b.map Li.cp) n s=eJ b n s
 |0,s=>rfl
 |n+1,s=>by
  unfold eJ;rw[List.find?_map,show cU s∘Li.cp=cU s from funext fun l=>th s l];cases b.find? (cU s) with
  |none=>rfl
  |some l=>
   show eJ (b.map Li.cp) n (s++l.cp.vars)=_;rw[Li.aA3,pd b n]
theorem Dr(r:Ru):dY r.cp=dY r:=by
 unfold dY;show eJ (r.b.map Li.cp) (aAh (r.b.map Li.cp) (kI (r.b.map Li.cp))) (kI (r.b.map Li.cp))=_;rw[FG,FT,pd]
theorem mb(r:Ru)(s:List ByteArray)(b:Bool):cL r.cp s b=cL r s b:=by unfold cL;rw[Ru.aA3]
theorem qp(r:Ru)(k:Nat):r.cp.b.getD k default=(r.b.getD k default).cp:=by
 show(r.b.map Li.cp).getD k default=_;simp only[Kd,List.getElem?_map];cases r.b[k]?<;>rfl
theorem D7(r:Ru)(s:List ByteArray)(left:List Nat):iS r.cp s left=iS r s left:=by
 unfold iS;simp only[qp,Dj];rfl
theorem l8(r:Ru):∀(n:Nat) (s:List ByteArray) (left:List Nat),gI r.cp n s left=gI r n s left
 |0,s,left=>rfl
 |n+1,s,left=>by
  unfold gI;simp only[D7,qp,Li.aA3,mb,l8 r n]
theorem Ci(r:Ru):cO r.cp=cO r:=by
 unfold cO nM;rw[l8];show((gI r (r.b.map Li.cp).length [] (Ke (r.b.map Li.cp).length)).map _)=_;rw[KE]
theorem ui(r:Ru):∀(ks:List Nat) (hv:List ByteArray),fK r.cp ks hv=fK r ks hv
 | [],hv=>rfl
 |k::ks,hv=>by
  unfold fK;rw[qp,Li.aBU,ui r ks];congr 1;unfold gU;rw[Li.aBU];rfl
theorem DY(r:Ru):lH r.cp=lH r:=by unfold lH;rw[Ci,ui]
end Go.Proofs.YtgbiopfghdilnaaGreatDoor
namespace Go.Proofs.YtgbiopfghdilnaaGreatDoor
open Go.RowKit Go.Sort
attribute [local irreducible] KA
theorem bo(l:List PS)(i:Nat)(h:i<l.length):(vs9 l).getD i (.tup [])=(l.getD i default).v9 (o9 i):=by
 unfold vs9;rw[Kd,Kf (by simpa using h),List.getElem_mapIdx,Kd,Kf h];rfl
def r6(ps:List PS):V:=if ps.length=0 then .sl .leaf .nil [] else .sl .leaf .free ((eB ps).map V.str)
theorem ym(ps:List PS)(hp:ps.length≤1000)(h:Hp):aK Tryz.prog 17 [lst (.agg 5) (vs9 ps)] h (r6 ps):=by
 refine aH (fun L=>?_) fun h' nx hh=>aB L.bFI fun hd=>?_
 ·unfold r6;split
  ·exact⟨fun n e=>(by cases e),trivial⟩
  exact⟨fun n e=>(by cases e),aT (f:=V.str) (fun _=>trivial) _⟩
 obtain⟨oS,hoS⟩:=bQ (.agg 5) (vs9 ps);rw[hoS];refine ZK ?_;unfold r6;by_cases hlp:ps.length=0
 ·have hz:((ps.length:Int)==0)=true:=by rw[hlp];rfl
  refine aue (e2 hz (cC)) ?_;refine aC h' (leo hd) ⟨?_,rfl⟩;rw[if_pos hlp];rfl
 have bFg:0<ps.length:=or;have hz:((ps.length:Int)==0)=false:=bqf;have hg:=bo ps (ps.length-1) or;have hw1:IntKind.i64.wrap ((ps.length:Int)-1)=((ps.length-1:Nat):Int):=by
  rw[(wrp:IntKind.i64.wrap ((ps.length:Int)-1)=(ps.length:Int)-1)];omega
 have hwt:((ps.getD (ps.length-1) default).v9 (o9 (ps.length-1))).cell 3= .sl .leaf .free ((eB ps).map V.str):=rfl;generalize (ps.getD (ps.length-1) default).v9 (o9 (ps.length-1))=s at hg hwt;have n0:ps.length-1<ps.length:=or;rw[if_neg hlp];refine aue (e7 hz hg hw1 hwt n0 cC jG) ?_;exact aC h' (leo hd) ⟨rfl,rfl⟩
end Go.Proofs.YtgbiopfghdilnaaGreatDoor
namespace Go.Proofs.YtgbiopfghdilnaaGreatDoor
open Go.RowKit Go.Sort
end Go.Proofs.YtgbiopfghdilnaaGreatDoor
