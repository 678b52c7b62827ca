/-
Texts of this proof,one behind the other. No conditions.
-/
import Derived.Test.YtecepaehmojpgaaGreatNo
import Derived.Test.YtecepaehmojpgaaGreatNh
import Derived.Test.YtecepaehmojpgaaGreatNd
import Derived.Test.YtecepaehmojpgaaGreatNn
import Derived.Test.YtecepaehmojpgaaGreatNr
open Go.Proofs.YtecepaehmojpgaaGreat.Hp renaming le_refl→Ka
open List renaming mem_cons_of_mem→Kb,pairwise_cons→Kc,replicate_succ→Kd,replicate_zero→Ke,findIdx?_cons→Kf,length_cons→Ki,cons_append→Kj,length_nil→Kk,nil_append→Km,getD_eq_getElem?_getD→Ko,getElem?_eq_getElem→Kp,length_map→Kq,mem_cons→Ks,map_cons→Kz,getElem?_map→KC,pairwise_map→KE,map_append→KG,map_set→KL
open Nat renaming reduceAdd→Kg,reduceSub→Kh,reduceLeDiff→Kv,reduceEqDiff→Kw,reduceLT→KB,lt_or_ge→KK,zero_le→KN,le_refl→KO
open Bool renaming false_and→Kt,true_and→Ku,and_eq_true→Kx,not_false→KJ
open Int renaming reduceToNat→Ky,toNat_natCast→KD,natCast_zero→KF,natCast_add→KH,natCast_one→KI,le_refl→KM
set_option linter.unusedSimpArgs false
set_option linter.unusedVariables false
set_option linter.unusedSectionVars false
set_option maxHeartbeats 8000000
open Nat renaming reduceAdd→jA,reduceSub→jB,reduceLT→jC,reduceLeDiff→jD,reduceEqDiff→jE
open Int renaming reduceToNat→jF,toNat_natCast→jG,natCast_add→jH,natCast_one→jI,natCast_zero→jJ
open List renaming length_map→jK,length_cons→jL,length_nil→jM,replicate_succ→jN,replicate_zero→jO,cons_append→jP,nil_append→jQ
namespace Go.Proofs.YtecepaehmojpgaaGreat
open Go.RowKit Go.Sort
def Pa.act(p:Pa)(t:Tm):Tm:=⟨t.e,if p.n=true then p.a else p.a+t.r⟩
def Rch(l:List We)(s u:Sp):Prop:=∃w,iK l s.p.toNat w u.p.toNat∧((DM Pa.aAO w).act s.t).le u.t=true
structure Nt where
 aAz:Sp
 made:List Sp
def Nt.at'(n:Nt)(s:Sp):Int:=(n.made.count s:Int)-(if n.aAz=s then 1 else 0)
def qu(l:List Nt)(s:Sp):Int:=(l.map fun n=>n.at' s).sum
structure Ep(l:List We)(T V:Sp→Int)(aS0:List Nt):Prop where
 sum:∀s,T s=V s+qu aS0 s
 pos:∀s,0≤T s
 lead:∀n∈aS0,0≤n.aAz.p∧∀m∈n.made,n.aAz≠m∧0≤m.p∧Rch l n.aAz m
def Nt.cs(n:Nt):List Cg:=(n.made.map fun s=>(⟨s,1⟩:Cg))++[⟨n.aAz,-1⟩]
theorem Nt.aDl(n:Nt):n.cs.length=n.made.length+1:=by simp[Nt.cs]
theorem DG(n:Nt)(s:Sp):-1≤n.at' s∧(n.aAz≠s→0≤n.at' s)∧n.at' s≤n.made.length:=by
 have:n.made.count s≤n.made.length:=List.count_le_length;unfold Nt.at';refine⟨?_,?_,?_⟩
 ·split<;>omega
 ·intro h;rw[if_neg h];omega
 split<;>omega
theorem vq(n:Nt)(l:List Nt)(s:Sp):qu (n::l) s=n.at' s+qu l s:=rfl
def Br(N:Nat)(Q:Nat→Nat→List Nt)(j:Nat):List Nt:=(List.range N).flatMap fun i=>Q i j
def B8(l:List Nt):Nat:=(l.map fun n=>n.made.length+1).sum
theorem AO(n:Nt)(l:List Nt):B8 (n::l)=(n.made.length+1)+B8 l:=rfl
theorem vr(l:List Nt)(s:Sp):-(B8 l:Int)≤qu l s∧qu l s≤B8 l:=by
 induction l with
 |nil=>exact⟨KM _,KM _⟩
 |cons n l ih=>
  obtain⟨q1,_,q3⟩:=DG n s;rw[vq,AO];omega
abbrev CS:=List CE×Nat
def gU{α:Type}(f:Nat→α)(i:Nat)(x:α):Nat→α:=fun j=>if j=i then x else f j
def l5(Q:Int→Int→List Nt)(i j:Int)(l:List Nt):Int→Int→List Nt:=fun a b=>if a=i∧b=j then l else Q a b
def kF(N:Nat)(Q:Int→Int→List Nt)(m:Int)(n:Nt):Int→Int→List Nt:=fun a b=>if a=m∧b≠m∧0≤b∧b<N then Q a b++[n] else Q a b
def Dr(Q:Int→Int→List Nt):Nat→Nat→List Nt:=fun a b=>Q a b
structure LI(l:List We)(P:Int)(N k:Nat)(S:Nat→CS)(Q:Int→Int→List Nt):Prop where
 st:∀i,StC P (S i).1 (S i).2 (10+7*k)
 rel:∀j,j<N→Ep l (dT (S 0).1) (dT (S (j+1)).1) (Br N (Dr Q) j)
 up:∀s,dT (S 0).1 s≤10+7*k
 bk:∀j,j<N→B8 (Br N (Dr Q) j)≤7*k
 fit:∀i j,∀n∈Q i j,n.made.length≤6∧n.cs.any (fM P)=false
 len:∀i j,(Q i j).length≤k
section
variable{l:List We}{P:Int}{N k:Nat}{S:Nat→CS}{Q:Int→Int→List Nt}
theorem LI.small(H:LI l P N k S Q){j:Nat}(hj:j<N)(s:Sp):-(7*k:Int)≤dT (S (j+1)).1 s∧dT (S (j+1)).1 s≤10+14*k:=by
 have h1:=(H.rel j hj).sum s;have h2:=(H.rel j hj).pos s;have h3:=H.up s;have h4:=vr (Br N (Dr Q) j) s;have h5:=H.bk j hj;omega
end
end Go.Proofs.YtecepaehmojpgaaGreat
namespace Go.Proofs.YtecepaehmojpgaaGreat
open Go.RowKit
attribute [local irreducible] IntKind.wrap
def byB(s u:Sp)(p:Pa):Bool:=decide ((p.of s.t).2=0)&&(p.of s.t).1.le u.t
def pW(l:List Pa)(s u:Sp):Bool:= !decide (s=u)&&u.t.ok&&l.any (byB s u)
theorem CX(p:Pa)(s u:Sp){h:Hp}{a b:Nat}(ha:h a=some (.arr (.agg 3) [s.v]))(hb:h b=some (.arr (.agg 3) [u.v])):
 aX Tryz.prog 82 [p.v, .ptr a (.agg 3) 0 0, .ptr b (.agg 3) 0 0] h (.bool (byB s u p)):=by
 refine aP (fun L=>trivial) fun h' nx hh=>aD L.aVV fun hd=>?_;simp only[Ki,Kk,Kg,Kh,Kd,Ke,Kj,Km,V.undef];have c1:h' a=some (.arr (.agg 3) [.agg [.int .i64 s.p, .int .i64 s.t.e, .int .i64 s.t.r]]):=hh _ _ ha rfl;have c2:h' b=some (.arr (.agg 3) [.agg [.int .i64 u.p, .int .i64 u.t.e, .int .i64 u.t.r]]):=hh _ _ hb rfl;have n1:a<nx:=hd _ _ c1;have n2:b<nx:=hd _ _ c2;have C1:∀h,aX Tryz.prog 83 [.agg [.bool p.n, .int .i64 p.a], .agg [.int .i64 s.t.e, .int .i64 s.t.r]] h (.tup [.agg [.int .i64 (p.of s.t).1.e, .int .i64 (p.of s.t).1.r],eF (p.of s.t).2]):=fun h=>yX p s.t h;have C2:∀h,aX Tryz.prog 84 [.agg [.int .i64 (p.of s.t).1.e, .int .i64 (p.of s.t).1.r], .agg [.int .i64 u.t.e, .int .i64 u.t.r]] h (.bool ((p.of s.t).1.le u.t)):=fun h=>zQ _ _ h;have e1:(a=nx)=False:=eq_false or;have e2:(b=nx)=False:=eq_false or;have e3:(a=nx+1)=False:=eq_false or;have e4:(b=nx+1)=False:=eq_false or;have hv:=iE (p.of s.t).2;unfold byB;cases hz:decide ((p.of s.t).2=0) with
 |true=>
  rw[hz] at hv;refine aue (ei Pa.v.eq_1 c1 c2 n1 n2 hv e1 e2 e3 e4 Ku) ?_;exact aG h' (by repeat (first|exact Ka _|refine aH hd ?_ or _|refine aL hd ?_ or)) ⟨rfl,rfl⟩
 |false=>
  rw[hz] at hv;refine aue (ei Pa.v.eq_1 c1 c2 n1 n2 hv e1 e2 e3 e4 Kt) ?_;exact aG h' (by repeat (first|exact Ka _|refine aH hd ?_ or _|refine aL hd ?_ or)) ⟨rfl,rfl⟩
theorem uX(o:Own)(l:List Pa)(hl:l.length≤1000)(s u:Sp)(h:Hp):
 aX Tryz.prog 51 [.sl (.agg 2) o (l.map Pa.v),s.v,u.v] h (.bool (pW l s u)):=by
 refine aP (fun L=>trivial) fun h' nx hh=>aD L.aVv fun hd=>?_;simp only[Ki,Kk,Kg,Kh,Kd,Ke,Kj,Km,V.undef];have hcf:aX Tryz.prog 85 [.sl (.agg 2) o (l.map Pa.v), .fn (.func 82) [] [.ptr nx (.agg 3) 0 0, .ptr (nx+1) (.agg 3) 0 0]] ((h'.set nx (.arr (.agg 3) [s.v])).set (nx+1) (.arr (.agg 3) [u.v])) (.bool (l.any (byB s u))):=
  dR Pa.v Pa.aAC fN eM (byB s u) o l _ [.ptr nx (.agg 3) 0 0, .ptr (nx+1) (.agg 3) 0 0] _ (fun x _=>CX x s u (by simp[Hp.set]) (by simp[Hp.set])) or
 have C1:∀h,aX Tryz.prog 66 [.agg [.int .i64 u.t.e, .int .i64 u.t.r]] h (.bool u.t.ok):=fun h=>pC u.t h;have hv:veq (.plain (.agg 3) [.int, .int, .int]) (.agg [.int .i64 s.p, .int .i64 s.t.e, .int .i64 s.t.r]) (.agg [.int .i64 u.p, .int .i64 u.t.e, .int .i64 u.t.r])=some (decide (s=u)):=lz s u;unfold pW;cases hz:decide (s=u) with
 |true=>
  rw[hz] at hv;refine aue (ee4 Sp.v.eq_1 hv Bool.not_true Kt) ?_;exact aG h' (by repeat (first|exact Ka _|refine aH hd ?_ or _|refine aL hd ?_ or)) ⟨rfl,rfl⟩
 |false=>
  rw[hz] at hv;cases hr:u.t.ok with
  |false=>
   rw[hr] at C1;refine aue (ee5 Sp.v.eq_1 hv KJ Ku Kt) ?_;exact aG h' (by repeat (first|exact Ka _|refine aH hd ?_ or _|refine aL hd ?_ or)) ⟨rfl,rfl⟩
  |true=>
   rw[hr] at C1;have C5:=hcf;refine aue (ee4 Sp.v.eq_1 hv KJ Ku) ?_;exact aG h' (by repeat (first|exact Ka _|refine aH hd ?_ or _|refine aL hd ?_ or)) ⟨rfl,rfl⟩
end Go.Proofs.YtecepaehmojpgaaGreat
namespace Go.Proofs.YtecepaehmojpgaaGreat
open Go.RowKit
attribute [local irreducible] IntKind.wrap
def cJ(l:List Sp)(d:Int):List Cg:=l.map fun s=>⟨s,d⟩
set_option maxRecDepth 100000 in
set_option maxHeartbeats 4000000 in
theorem pZ(o:Own)(l:List Sp)(d:Int)(hl:l.length≤100000)(h':Hp)(nx:Nat):
 bD Tryz.prog 37 [.sl (.agg 3) o (l.map Sp.v), .int .i64 d] h' nx fun v h'' _=>yR nx h' (.agg 4) ((cJ l d).map Cg.v) v h'':=by
 refine aD L.aV6 fun hd=>?_;simp only[jL,jM,jA,jB,jN,jO,jP,jQ,V.undef];refine aue (@jK Sp V) ?_
 refine aT (fun q:Nat×Own=>aB 22 0 [(1, .int .i64 d),(5,cgs q.2 ((cJ l d).take q.1)),(8, .sl (.agg 3) o (l.map Sp.v)),(9, .int .i64 l.length),(10, .int .i64 q.1)])
  (fun q hp nx1=>q.1≤l.length∧nx≤nx1∧aK hp nx1∧Hp.same nx h' hp∧Acc hp nx q.2 (((cJ l d).take q.1).map Cg.v))
  (fun q=>l.length-q.1) (0, .nil) ⟨KN _,KO _,hd,Hp.same.aBI,Acc.nil⟩ (by simp only[WkL,aB,jH,jI,jJ,cgs,List.take_zero,List.map_nil,go_sem,reduceIte,jA,jB,jC,jD,reduceCtorEq,jE,jF]) ?_
 rintro⟨i,oo⟩ hp nx1 ⟨hi,hnx,hdm,hsm,aAl⟩;generalize hQ:bO _ _ _ _ _=Q0;dsimp only at hi aAl;simp only[aB,cgs,go_sem,reduceIte,jA,jB,jC,jD,reduceCtorEq,jE,jF];have hnl:(cJ l d).length=l.length:=by simp[cJ]
 rcases KK i l.length with hlt|hge
 ·have hc1:decide ((i:Int)<(l.length:Int))=true:=dct;have hw1:IntKind.i64.wrap ((i:Int)+1)=((i+1:Nat):Int):=wrp;have hg:(l.map Sp.v).getD i (.tup [])= .agg [.int .i64 l[i].p, .int .i64 l[i].t.e, .int .i64 l[i].t.r]:=dQ Sp.v _ l i hlt;have htk:((cJ l d).take (i+1)).map Cg.v=((cJ l d).take i).map Cg.v++[.agg [.int .i64 l[i].p, .int .i64 l[i].t.e, .int .i64 l[i].t.r, .int .i64 d]]:=by
   rw[List.take_succ_eq_append_getElem or,KG];simp[cJ,Cg.v]
  have hlen:(((cJ l d).take i).map Cg.v).length=i:=by simp[hnl];omega
  refine aue (e8 hc1 hw1 hg hlt hlen (@jK Sp V) jG htk) ?_;rw[←hQ];refine aF (i+1, .tok (nx1+3)) Zw ⟨hlt,ZN,dmo hdm,BD hsm aAl,?_⟩ (by simp only[WkL,aB,jH,jI,jJ,cgs,htk,go_sem,reduceIte,jA,jB,jC,jD,reduceCtorEq,jE,jF]);dsimp only;rw[htk];exact Acc.new _ Zm or
 have hc1:decide ((i:Int)<(l.length:Int))=false:=dcf;refine aue hc1 ?_;rw[←hQ];refine au ?_;have htl:(cJ l d).take i=cJ l d:=List.take_of_length_le or;rw[htl] at aAl;simp only[htl];rcases aAl with⟨he,rfl⟩|⟨hne,id,hid,rfl,ht⟩
 ·refine aG h' (hsm.le hd (Ka _)) (.inl ⟨he,?_,rfl⟩);refine Zn ?_;rw[he]
 refine aG (h'.set id .tip) ?_ (.inr ⟨hne,id,hid,?_,rfl⟩)
 ·intro m b hb;simp only[Hp.set] at hb;split at hb
  ·rename_i e;rw[e];show hp id=some b;rw[ht];exact hb
  exact(hsm.le hd (Ka _)) m b hb
 simp only[go_sem,reduceIte,jA,jB,jC,jD,reduceCtorEq,jE,jF]
theorem ic(o:Own)(l:List Sp)(d:Int)(hl:l.length≤100000)(hne:l≠ [])(h:Hp):rT Tryz.prog 37 [.sl (.agg 3) o (l.map Sp.v), .int .i64 d] h (.agg 4) ((cJ l d).map Cg.v):=by
 refine sr (fun L=>bE (Cg.aAM L) _) fun h' nx hh=>(pZ o l d hl h' nx).mono ?_;rintro v h2 n2 _ (⟨he,_⟩|⟨_,id,h1,h2,h3⟩)
 ·simp[cJ] at he;exact absurd he hne
 exact⟨id,h1,h2,h3⟩
end Go.Proofs.YtecepaehmojpgaaGreat
namespace Go.Proofs.YtecepaehmojpgaaGreat
open Go.RowKit
attribute [local irreducible] IntKind.wrap
structure QE where
 i:Int
 j:Int
 o:Own
 l:List (Own×Nt)
 b:Nat
 deriving Inhabited
def zA(x:Own×Nt):V:= .sl (.agg 4) x.1 (x.2.cs.map Cg.v)
def qV(o:Own)(l:List (Own×Nt)):V:= .sl .leaf o (l.map zA)
def vY(i j:Int):V:= .agg [.int .i64 i, .int .i64 j]
def QE.me(x:QE):ME:=⟨vY x.i x.j,qV x.o x.l,x.b⟩
def eT(q:List QE)(i j:Int):Option Nat:=q.findIdx? fun x=>decide (x.i=i)&&decide (x.j=j)
def ql(q:List QE)(i j:Int):V:=match eT q i j with
 |some k=>qV (q.getD k default).o (q.getD k default).l
 |none=> .sl .leaf .nil []
def dH(q:List QE)(i j:Int):List (Own×Nt):=match eT q i j with
 |some k=>(q.getD k default).l
 |none=>[]
theorem A3(a b c d:Int):veq (.plain (.agg 2) [.int, .int]) (vY a b) (vY c d)=some (decide (a=c)&&decide (b=d)):=by
 have h:veq (.plain (.agg 2) [.int, .int]) (vY a b) (vY c d)=some ((a==c)&&(b==d)):=rfl;rw[h];congr 1
theorem sE(i j:Int):∀q:List QE,fC (.plain (.agg 2) [.int, .int]) (vY i j) (q.map QE.me)=some (eT q i j)
 | []=>rfl
 |x::q=>by
  rw[Kz,fC,eT,Kf];simp only[QE.me,A3];have ih:=sE i j q;unfold eT at ih;by_cases h1:i=x.i
  ·by_cases h2:j=x.j
   ·subst h1;subst h2;simp
   have h2':¬x.j=j:=fun e=>h2 e.symm;rw[h1] at ih;simp[h1,h2,h2',ih]
  have h1':¬x.i=i:=fun e=>h1 e.symm;simp[h1,h1',ih]
theorem mw(q:List QE)(i j:Int):qF false (.sl .leaf .nil []) (q.map QE.me) (eT q i j)=ql q i j:=by
 unfold ql qF;cases h:eT q i j with
 |none=>rfl
 |some k=>
  have hk:k<q.length:=by
   unfold eT at h;obtain⟨hk,_⟩:=aj h;exact hk
  simp only[Bool.false_eq_true,if_false];have e1:(q.map QE.me).getD k default=QE.me q[k]:=by rw[Ko,KC,Kp hk];rfl
  have e2:q.getD k default=q[k]:=by rw[Ko,Kp hk];rfl
  rw[e1,e2];rfl
theorem yd(q:List QE)(i j:Int):∃o,ql q i j=qV o (dH q i j):=by
 unfold ql dH;cases eT q i j with
 |none=>exact⟨.nil,rfl⟩
 |some k=>exact⟨_,rfl⟩
structure iJ(h:Hp)(wb tb nb:Nat)(lv:V)(vo:Own)(vs:List Nat)(q:List QE)(c:Nat):Prop where
 cell:h wb=some (.arr (.agg 4) [.agg [lv, .ptr tb (.agg 4) 0 0, .sl .leaf vo (vs.map fun v=> .ptr v (.agg 4) 0 0), .map nb]])
 mp:h nb=some (.mp (q.map QE.me) c)
theorem nJ{h:Hp}{wb tb nb:Nat}{lv:V}{vo:Own}{vs:List Nat}{q:List QE}{c:Nat}(w:iJ h wb tb nb lv vo vs q c)(i:Int):
 aX Tryz.prog 40 [.ptr wb (.agg 4) 0 0, .int .i64 i] h (.bool (decide (0≤i)&&decide (i<vs.length))):=by
 refine aP (fun L=>trivial) fun h' nx hh=>aD L.aTU fun hd=>?_;simp only[Ki,Kk,Kg,Kh,Kd,Ke,Kj,Km,V.undef];have c1:=hh _ _ w.cell rfl;have n1:wb<nx:=hd _ _ c1;by_cases h1:0≤i
 ·have h2:decide (i≥0)=true:=dct;have h3:decide (0≤i)=true:=dct;refine aue (ee6 c1 n1 h2 (@Kq Nat V) h3 Ku) ?_;exact aG h' (by repeat (first|exact Ka _|refine aH hd ?_ or _|refine aL hd ?_ or)) ⟨rfl,rfl⟩
 have h2:decide (i≥0)=false:=dcf;have h3:decide (0≤i)=false:=dcf;refine aue (ee5 c1 n1 h2 h3 Kt) ?_;exact aG h' (by repeat (first|exact Ka _|refine aH hd ?_ or _|refine aL hd ?_ or)) ⟨rfl,rfl⟩
theorem lw{h:Hp}{wb tb nb:Nat}{lv:V}{vo:Own}{vs:List Nat}{q:List QE}{c:Nat}(w:iJ h wb tb nb lv vo vs q c)(i j:Int):
 aX Tryz.prog 26 [.ptr wb (.agg 4) 0 0, .int .i64 i, .int .i64 j] h (.int .i64 (dH q i j).length):=by
 refine aP (fun L=>trivial) fun h' nx hh=>aD L.aWE fun hd=>?_;simp only[Ki,Kk,Kg,Kh,Kd,Ke,Kj,Km,V.undef];have c1:=hh _ _ w.cell rfl;have c2:=hh _ _ w.mp rfl;have n1:wb<nx:=hd _ _ c1;have n2:nb<nx:=hd _ _ c2;have hf:fC (.plain (.agg 2) [.int, .int]) (.agg [.int .i64 i, .int .i64 j]) (q.map QE.me)=some (eT q i j):=sE i j q;have hg:=mw q i j;obtain⟨o,ho⟩:=yd q i j;rw[ho] at hg;unfold qV at hg;refine aue (ee7 c1 c2 n1 n2 hf hg (@Kq (Own×Nt) V)) ?_;exact aG h' (by repeat (first|exact Ka _|refine aH hd ?_ or _|refine aL hd ?_ or)) ⟨rfl,rfl⟩
theorem l9{h:Hp}{wb tb nb:Nat}{lv:V}{vo:Own}{vs:List Nat}{q:List QE}{c:Nat}(w:iJ h wb tb nb lv vo vs q c):
 aX Tryz.prog 17 [.ptr wb (.agg 4) 0 0] h (.bool (decide (q=[]))):=by
 refine aP (fun L=>trivial) fun h' nx hh=>aD L.g9z fun hd=>?_;simp only[Ki,Kk,Kg,Kh,Kd,Ke,Kj,Km,V.undef];have c1:=hh _ _ w.cell rfl;have c2:=hh _ _ w.mp rfl;have hz:(((q.length:Nat):Int)==0)=decide (q=[]):=by
  rw[Bool.eq_iff_iff];cases q<;>simp;omega
 refine aue (ee4 c1 c2 hz (@Kq QE ME)) ?_;exact aG h' (by repeat (first|exact Ka _|refine aH hd ?_ or _|refine aL hd ?_ or)) ⟨rfl,rfl⟩
theorem my{h:Hp}{wb tb nb:Nat}{lv:V}{vo:Own}{vs:List Nat}{q:List QE}{c:Nat}(w:iJ h wb tb nb lv vo vs q c):
 aX Tryz.prog 18 [.ptr wb (.agg 4) 0 0] h (.int .i64 vs.length):=by
 refine aP (fun L=>trivial) fun h' nx hh=>aD L.aTY fun hd=>?_;simp only[Ki,Kk,Kg,Kh,Kd,Ke,Kj,Km,V.undef];have c1:=hh _ _ w.cell rfl;refine aue (ee2 c1 (@Kq Nat V)) ?_;exact aG h' (by repeat (first|exact Ka _|refine aH hd ?_ or _|refine aL hd ?_ or)) ⟨rfl,rfl⟩
set_option maxRecDepth 100000 in
set_option maxHeartbeats 4000000 in
theorem Aw{h:Hp}{wb tb nb:Nat}{lv:V}{vo:Own}{vs:List Nat}{q:List QE}{c:Nat}(w:iJ h wb tb nb lv vo vs q c)(i:Int)(hv:vs.length≤100)(hq:∀j,(dH q i j).length<1000):
 aX Tryz.prog 45 [.ptr wb (.agg 4) 0 0, .int .i64 i] h (.bool false):=by
 refine aP (fun L=>trivial) fun h' nx hh=>aD L.aV0 fun hd=>?_;simp only[Ki,Kk,Kg,Kh,Kd,Ke,Kj,Km,V.undef];have c1:=hh _ _ w.cell rfl;have c2:=hh _ _ w.mp rfl;have n1:wb<nx:=hd _ _ c1;have n2:nb<nx:=hd _ _ c2;refine aue (ee2 c1 (@Kq Nat V)) ?_
 refine aT (fun k:Nat=>aB 25 0 [(0, .ptr wb (.agg 4) 0 0),(1, .int .i64 i),(10, .int .i64 vs.length),(11, .int .i64 k)])
  (fun k hp nx1=>k≤vs.length∧nx≤nx1∧aK hp nx1∧Hp.same nx h' hp)
  (fun k=>vs.length-k) 0 ⟨KN _,KO _,hd,Hp.same.aBI⟩ (by simp only[WkL,aB,KH,KI,KF,KD,go_sem,reduceIte,Kg,Kh,KB,Kv,reduceCtorEq,Kw,Ky]) ?_
 rintro k hp nx1 ⟨hk,hnx,hdm,hsm⟩;generalize hQ:bO _ _ _ _ _=Q0;simp only[aB,go_sem,reduceIte,Kg,Kh,KB,Kv,reduceCtorEq,Kw,Ky];have m1:hp wb=some (.arr (.agg 4) [.agg [lv, .ptr tb (.agg 4) 0 0, .sl .leaf vo (vs.map fun v=> .ptr v (.agg 4) 0 0), .map nb]]):=(hsm wb n1).trans c1;have m2:hp nb=some (.mp (q.map QE.me) c):=(hsm nb n2).trans c2;have k1:wb<nx1:=or;have k2:nb<nx1:=or;rcases KK k vs.length with hlt|hge
 ·have hc1:decide ((k:Int)<(vs.length:Int))=true:=dct;have hw1:IntKind.i64.wrap ((k:Int)+1)=((k+1:Nat):Int):=wrp;have hf:fC (.plain (.agg 2) [.int, .int]) (.agg [.int .i64 i, .int .i64 (k:Int)]) (q.map QE.me)=some (eT q i k):=sE i k q;have hg:=mw q i k;obtain⟨o,ho⟩:=yd q i k;rw[ho] at hg;unfold qV at hg;have hl:=hq k;have hc2:decide (((dH q i k).length:Int)≥1000)=false:=dcf;refine aue (ta hc1 hw1 m1 m2 k1 k2 hf hg hc2 (@Kq (Own×Nt) V)) ?_;rw[←hQ];exact aF (k+1) or ⟨hlt,ZN,dmo hdm,kep hsm⟩ (by simp only[WkL,aB,KH,KI,KF,KD,go_sem,reduceIte,Kg,Kh,KB,Kv,reduceCtorEq,Kw,Ky])
 have hc1:decide ((k:Int)<(vs.length:Int))=false:=dcf;refine aue hc1 ?_;rw[←hQ];refine au ?_;exact aG h' (hsm.le hd (Ka _)) ⟨rfl,rfl⟩
set_option maxRecDepth 100000 in
set_option maxHeartbeats 4000000 in
theorem wd{h:Hp}{wb tb nb:Nat}{ot:Own}{rows:List V}{vo:Own}{vs:List Nat}{q:List QE}{c:Nat}(w:iJ h wb tb nb (.sl .leaf ot rows) vo vs q c)(T:Nat→Nat→List Pa)(n:Nat)(hT:AW T n rows)(hlen:∀a b,(T a b).length≤1000)(s u:Sp):
 aX Tryz.prog 42 [.ptr wb (.agg 4) 0 0,s.v,u.v] h (.bool (decide (0≤u.p∧u.p<n∧0≤s.p∧s.p<n)&&pW (T s.p.toNat u.p.toNat) s u)):=by
 refine aP (fun L=>trivial) fun h' nx hh=>aD L.aV2 fun hd=>?_;simp only[Ki,Kk,Kg,Kh,Kd,Ke,Kj,Km,V.undef];have c1:=hh _ _ w.cell rfl;have n1:wb<nx:=hd _ _ c1;have e1:(wb=nx)=False:=eq_false or;have e2:(wb=nx+1)=False:=eq_false or;obtain⟨hrl,aHa⟩:=hT;by_cases h1:u.p<0
 ·have g1:decide (u.p<0)=true:=dct;have g2:decide (0≤u.p∧u.p<n∧0≤s.p∧s.p<n)=false:=decide_eq_false or;refine aue (ee7 Sp.v.eq_1 c1 n1 e1 e2 g1 g2) ?_;exact aG h' (by repeat (first|exact Ka _|refine aH hd ?_ or _|refine aL hd ?_ or)) ⟨rfl,rfl⟩
 have g1:decide (u.p<0)=false:=dcf;by_cases h2:u.p≥n
 ·have g2:decide (u.p≥(rows.length:Int))=true:=by rw[hrl];exact dct
  have g3:decide (0≤u.p∧u.p<n∧0≤s.p∧s.p<n)=false:=decide_eq_false or;refine aue (ee8 Sp.v.eq_1 c1 n1 e1 e2 g1 g2 g3) ?_;exact aG h' (by repeat (first|exact Ka _|refine aH hd ?_ or _|refine aL hd ?_ or)) ⟨rfl,rfl⟩
 have g2:decide (u.p≥(rows.length:Int))=false:=by rw[hrl];exact dcf
 by_cases h3:s.p<0
 ·have g3:decide (s.p<0)=true:=dct;have g4:decide (0≤u.p∧u.p<n∧0≤s.p∧s.p<n)=false:=decide_eq_false or;refine aue (ee9 Sp.v.eq_1 c1 n1 e1 e2 g1 g2 g3 g4) ?_;exact aG h' (by repeat (first|exact Ka _|refine aH hd ?_ or _|refine aL hd ?_ or)) ⟨rfl,rfl⟩
 have g3:decide (s.p<0)=false:=dcf;by_cases h4:s.p≥n
 ·have g4:decide (s.p≥(rows.length:Int))=true:=by rw[hrl];exact dct
  have g5:decide (0≤u.p∧u.p<n∧0≤s.p∧s.p<n)=false:=decide_eq_false or;refine aue (ta Sp.v.eq_1 c1 n1 e1 e2 g1 g2 g3 g4 g5) ?_;exact aG h' (by repeat (first|exact Ka _|refine aH hd ?_ or _|refine aL hd ?_ or)) ⟨rfl,rfl⟩
 have g4:decide (s.p≥(rows.length:Int))=false:=by rw[hrl];exact dcf
 have g5:decide (0≤u.p∧u.p<n∧0≤s.p∧s.p<n)=true:=decide_eq_true or;obtain⟨p,t⟩:=s;obtain⟨r,t2⟩:=u;dsimp only at h1 h2 h3 h4 g1 g2 g3 g4 g5⊢;obtain⟨a,rfl⟩:∃a:Nat,p=a:=⟨p.toNat,or⟩;obtain⟨b,rfl⟩:∃b:Nat,r=b:=⟨r.toNat,or⟩;obtain⟨aTe,cells,aBK,hcl,oc,aAJ⟩:=aHa a b or or;have k3:a<rows.length:=or;have k4:b<cells.length:=or;have D1:=fun h=>uX oc (T a b) (hlen a b) ⟨(a:Int),t⟩ ⟨(b:Int),t2⟩ h;refine aue (BV Sp.v.eq_1 c1 n1 e1 e2 g1 g2 g3 g4 g5 aBK aAJ k3 k4) ?_;exact aG h' (by repeat (first|exact Ka _|refine aH hd ?_ or _|refine aL hd ?_ or)) ⟨rfl,rfl⟩
theorem lu{h:Hp}{wb tb nb:Nat}{lv:V}{vo:Own}{vs:List Nat}{q:List QE}{c:Nat}(w:iJ h wb tb nb lv vo vs q c)(i:Nat)(hi:i<vs.length){es:List V}
 (hf:∀h',h.has h'→aX Tryz.prog 46 [.ptr vs[i] (.agg 4) 0 0] h' (lst .leaf es)) (hes:∀L,bP L es):
 aX Tryz.prog 20 [.ptr wb (.agg 4) 0 0, .int .i64 i] h (lst .leaf es):=by
 refine aP (fun L=>cP hes L) fun h' nx hh=>aD L.aTX fun hd=>?_;simp only[Ki,Kk,Kg,Kh,Kd,Ke,Kj,Km,V.undef];have c1:=hh _ _ w.cell rfl;have hw:iJ h' wb tb nb lv vo vs q c:=⟨c1,hh _ _ w.mp rfl⟩;have n1:wb<nx:=hd _ _ c1;have C5:=nJ hw i;have g1:(decide (0≤(i:Int))&&decide ((i:Int)<vs.length))=true:=by rw[dct,dct];rfl
 rw[g1] at C5;have hg:(vs.map fun v=>V.ptr v (.agg 4) 0 0).getD i (.tup [])= .ptr vs[i] (.agg 4) 0 0:=dQ (fun v=>V.ptr v (.agg 4) 0 0) _ vs i hi;have C6:=hf h' hh;refine aue (ee5 c1 n1 hg hi (@Kq Nat V)) ?_;exact aG h' (by repeat (first|exact Ka _|refine aH hd ?_ or _|refine aL hd ?_ or)) ⟨rfl,rfl⟩
end Go.Proofs.YtecepaehmojpgaaGreat
namespace Go.Proofs.YtecepaehmojpgaaGreat
open Go.RowKit
def QE.at'(x:QE)(i j:Int):Bool:=decide (x.i=i)&&decide (x.j=j)
theorem iT(q:List QE)(i j:Int):eT q i j=q.findIdx? fun x=>x.at' i j:=rfl
theorem cE(x:QE)(q:List QE)(i j:Int):dH (x::q) i j=if x.at' i j=true then x.l else dH q i j:=by
 unfold dH;rw[iT,iT,Kf];by_cases h:x.at' i j=true
 ·rw[if_pos h,if_pos h];rfl
 rw[if_neg h,if_neg h];cases q.findIdx? (fun x=>x.at' i j) with
 |none=>rfl
 |some k=>rfl
def lQ(q:List QE)(c:Nat)(i j:Int)(o:Own)(x:Own×Nt):List QE:=match eT q i j with
 |some k=>q.set k ⟨i,j,o,dH q i j++[x],(q.getD k default).b⟩
 |none=>q++[⟨i,j,o,[x],c⟩]
theorem rZ(c:Nat)(i j:Int)(o:Own)(x:Own×Nt):lQ [] c i j o x=[⟨i,j,o,[x],c⟩]:=rfl
theorem pE(y:QE)(q:List QE)(c:Nat)(i j:Int)(o:Own)(x:Own×Nt):lQ (y::q) c i j o x=if y.at' i j=true then ⟨i,j,o,y.l++[x],y.b⟩::q else y::lQ q c i j o x:=by
 unfold lQ;rw[cE,iT,iT,Kf];by_cases h:y.at' i j=true
 ·rw[if_pos h,if_pos h,if_pos h];rfl
 rw[if_neg h,if_neg h,if_neg h];cases q.findIdx? (fun x=>x.at' i j) with
 |none=>rfl
 |some k=>rfl
theorem nN(i j:Int)(o:Own)(l:List (Own×Nt))(b:Nat):QE.at' ⟨i,j,o,l,b⟩ i j=true:=by simp[QE.at']
theorem oS{x:QE}{i j i' j':Int}(h:x.at' i j=true)(hn:¬(i'=i∧j'=j)):x.at' i' j'=false:=by
 unfold QE.at' at h⊢;simp only[Kx,decide_eq_true_eq] at h;obtain⟨rfl,rfl⟩:=h;rw[Bool.and_eq_false_iff,decide_eq_false_iff_not,decide_eq_false_iff_not];by_cases e:x.i=i'
 ·exact .inr fun e2=>hn ⟨e.symm,e2.symm⟩
 exact .inl e
theorem qk(i j:Int)(o:Own)(x:Own×Nt)(c:Nat):∀q:List QE,dH (lQ q c i j o x) i j=dH q i j++[x]
 | []=>by rw[rZ,cE,if_pos (nN i j o _ c)];rfl
 |y::q=>by
  rw[pE,cE y];by_cases h:y.at' i j=true
  ·rw[if_pos h,if_pos h,cE,if_pos (nN i j o _ _)]
  rw[if_neg h,if_neg h,cE,if_neg h,qk i j o x c q]
theorem yV{i j i' j':Int}(hn:¬(i'=i∧j'=j))(o:Own)(x:Own×Nt)(c:Nat):∀q:List QE,dH (lQ q c i j o x) i' j'=dH q i' j'
 | []=>by
  rw[rZ,cE,if_neg (by rw[oS (nN i j o _ c) hn];simp)]
 |y::q=>by
  rw[pE,cE y];by_cases h:y.at' i j=true
  ·rw[if_pos h,cE,if_neg (by rw[oS (nN i j o _ _) hn];simp),if_neg (by rw[oS h hn];simp)]
  rw[if_neg h,cE,yV hn o x c q]
def iM(q:List QE)(i j:Int):List QE:=match eT q i j with
 |some k=>q.set k ⟨i,j,(q.getD k default).o,(dH q i j).tail,(q.getD k default).b⟩
 |none=>q
theorem mJ(y:QE)(q:List QE)(i j:Int):iM (y::q) i j=if y.at' i j=true then ⟨i,j,y.o,y.l.tail,y.b⟩::q else y::iM q i j:=by
 unfold iM;rw[cE,iT,iT,Kf];by_cases h:y.at' i j=true
 ·rw[if_pos h,if_pos h,if_pos h];rfl
 rw[if_neg h,if_neg h,if_neg h];cases q.findIdx? (fun x=>x.at' i j) with
 |none=>rfl
 |some k=>rfl
theorem qj(i j:Int):∀q:List QE,dH (iM q i j) i j=(dH q i j).tail
 | []=>rfl
 |y::q=>by
  rw[mJ,cE y];by_cases h:y.at' i j=true
  ·rw[if_pos h,if_pos h,cE,if_pos (nN i j _ _ _)]
  rw[if_neg h,if_neg h,cE,if_neg h,qj i j q]
theorem qU{i j i' j':Int}(hn:¬(i'=i∧j'=j)):∀q:List QE,dH (iM q i j) i' j'=dH q i' j'
 | []=>rfl
 |y::q=>by
  rw[mJ,cE y];by_cases h:y.at' i j=true
  ·rw[if_pos h,cE,if_neg (by rw[oS (nN i j _ _ _) hn];simp),if_neg (by rw[oS h hn];simp)]
  rw[if_neg h,cE,qU hn q]
def zW(q:List QE)(i j:Int):List QE:=match eT q i j with
 |some k=>q.eraseIdx k
 |none=>q
theorem xT(y:QE)(q:List QE)(i j:Int):zW (y::q) i j=if y.at' i j=true then q else y::zW q i j:=by
 unfold zW;rw[iT,iT,Kf];by_cases h:y.at' i j=true
 ·rw[if_pos h,if_pos h];rfl
 rw[if_neg h,if_neg h];cases q.findIdx? (fun x=>x.at' i j) with
 |none=>rfl
 |some k=>rfl
theorem bw{i j i' j':Int}(hn:¬(i'=i∧j'=j)):∀q:List QE,dH (zW q i j) i' j'=dH q i' j'
 | []=>rfl
 |y::q=>by
  rw[xT,cE y];by_cases h:y.at' i j=true
  ·rw[if_pos h,if_neg (by rw[oS h hn];simp)]
  rw[if_neg h,cE,bw hn q]
def nC(q:List QE):Prop:=q.Pairwise fun x y=>¬(x.i=y.i∧x.j=y.j)
theorem bv{i j:Int}:∀{q:List QE},(∀x∈q,x.at' i j=false)→dH q i j=[]
 | [],_=>rfl
 |y::q,h=>by
  rw[cE,if_neg (by rw[h y Zm];simp)];exact bv fun x hx=>h x (Kb y hx)
theorem ye{i j:Int}:∀{q:List QE},nC q→dH (zW q i j) i j=[]
 | [],_=>rfl
 |y::q,h=>by
  obtain⟨h1,h2⟩:=Kc.1 h;rw[xT];by_cases hy:y.at' i j=true
  ·rw[if_pos hy];refine bv fun x hx=>?_;have h3:=h1 x hx;cases e:x.at' i j with
   |false=>rfl
   |true=>
    unfold QE.at' at hy e;simp only[Kx,decide_eq_true_eq] at hy e;exact absurd ⟨hy.1.trans e.1.symm,hy.2.trans e.2.symm⟩ h3
  rw[if_neg hy,cE,if_neg hy];exact ye h2
theorem vW{q:List QE}{i j:Int}{k:Nat}(h:eT q i j=some k):k<q.length∧(q.getD k default).at' i j=true:=by
 obtain⟨hk,h1,_⟩:=aj h;refine⟨hk,?_⟩;rw[Ko,Kp hk];exact h1
theorem DX{q:List QE}{k:Nat}(hk:k<q.length):((q.map QE.me).getD k default).b=(q.getD k default).b:=by
 rw[Ko,KC,Kp hk,Ko,Kp hk];rfl
theorem vh{q:List QE}{i j:Int}{k:Nat}(h:eT q i j=some k)(c:Nat)(o:Own)(x:Own×Nt):(q.map QE.me).set k ⟨vY i j,qV o (dH q i j++[x]),((q.map QE.me).getD k default).b⟩=(lQ q c i j o x).map QE.me:=by
 rw[DX (vW h).1];unfold lQ;rw[h,KL];rfl
theorem vj{q:List QE}{i j:Int}(h:eT q i j=none)(c:Nat)(o:Own)(x:Own×Nt):q.map QE.me++[⟨vY i j,qV o [x],c⟩]=(lQ q c i j o x).map QE.me:=by
 unfold lQ;rw[h,KG];rfl
theorem gy{q:List QE}{i j:Int}(h:eT q i j=none):dH q i j=[]:=by unfold dH;rw[h]
theorem gw{q:List QE}{i j:Int}{k:Nat}(h:eT q i j=some k):dH q i j=(q.getD k default).l:=by unfold dH;rw[h]
theorem vU{q:List QE}{i j:Int}{k:Nat}(h:eT q i j=some k):ql q i j=qV (q.getD k default).o (dH q i j):=by unfold ql dH;rw[h]
theorem vV{q:List QE}{i j:Int}(h:eT q i j=none):ql q i j= .sl .leaf .nil []:=by unfold ql;rw[h]
theorem vf{q:List QE}{i j:Int}{k:Nat}(h:eT q i j=some k):(q.map QE.me).set k ⟨vY i j,qV (q.getD k default).o (dH q i j).tail,((q.map QE.me).getD k default).b⟩=(iM q i j).map QE.me:=by
 rw[DX (vW h).1];unfold iM;rw[h,KL];rfl
theorem z7{q:List QE}{i j:Int}{k:Nat}(h:eT q i j=some k):(q.map QE.me).eraseIdx k=(zW q i j).map QE.me:=by
 unfold zW;rw[h];generalize q=l;clear h;induction l generalizing k with
 |nil=>rfl
 |cons x l ih=>cases k with
  |zero=>rfl
  |succ k=>exact congrArg (_:: ·) ih
theorem bu(q:List QE)(i j:Int):eT (iM q i j) i j=eT q i j:=by
 induction q with
 |nil=>rfl
 |cons y q ih=>
  rw[mJ];rw[iT,iT] at ih⊢;by_cases h:y.at' i j=true
  ·rw[if_pos h,Kf,Kf,nN,h]
  rw[if_neg h,Kf,Kf,ih]
structure QOK(n0:Nat)(h:Hp)(q:List QE):Prop where
 tk:∀x∈q,∃b,x.o= .tok b∧n0≤b∧h b=some .tip
 td:q.Pairwise fun x y=>x.o≠y.o
 key:nC q
 ne:∀x∈q,x.l≠ []
theorem QOK.nil(n0:Nat)(h:Hp):QOK n0 h []:=⟨Zm, .nil, .nil,Zm⟩
theorem fz{x:QE}{i j:Int}:x.at' i j=true↔x.i=i∧x.j=j:=by
 unfold QE.at';rw[Kx,decide_eq_true_eq,decide_eq_true_eq]
theorem wM{y:QE}{q:List QE}{i j:Int}(h:nC (y::q))(hy:y.at' i j=true):∀x∈q,¬x.at' i j=true:=fun x hx hc=>by
 rw[fz] at hy hc;exact(Kc.1 h).1 x hx ⟨hy.1.trans hc.1.symm,hy.2.trans hc.2.symm⟩
theorem sA{i j:Int}{o:Own}{x:Own×Nt}{c:Nat}:∀{q:List QE},nC q→∀y∈lQ q c i j o x,(y∈q∧¬y.at' i j=true)∨∃l b,y=⟨i,j,o,l++[x],b⟩
 | [],_,y,hy=>by
  rw[rZ] at hy;exact .inr ⟨[],c,List.mem_singleton.1 hy⟩
 |z::q,hk,y,hy=>by
  rw[pE] at hy;by_cases h:z.at' i j=true
  ·rw[if_pos h] at hy;rcases Ks.1 hy with rfl|hy
   ·exact .inr ⟨z.l,z.b,rfl⟩
   exact .inl ⟨Kb z hy,wM hk h y hy⟩
  rw[if_neg h] at hy;rcases Ks.1 hy with rfl|hy
  ·exact .inl ⟨Zm,h⟩
  rcases sA (Kc.1 hk).2 y hy with h1|h1
  ·exact .inl ⟨Kb z h1.1,h1.2⟩
  exact .inr h1
theorem tQ{R:QE→QE→Prop}{i j:Int}{o:Own}{x:Own×Nt}{c:Nat}:∀{q:List QE},nC q→q.Pairwise R→(∀y∈q,¬y.at' i j=true→∀l b,R y ⟨i,j,o,l,b⟩∧R ⟨i,j,o,l,b⟩ y)→(lQ q c i j o x).Pairwise R
 | [],_,_,_=>by rw[rZ];exact List.pairwise_singleton ..
 |z::q,hk,hq,hn=>by
  obtain⟨q1,q2⟩:=Kc.1 hq;have hk':=(Kc.1 hk).2;rw[pE];by_cases h:z.at' i j=true
  ·rw[if_pos h];exact Kc.2 ⟨fun y hy=>(hn y (Kb z hy) (wM hk h y hy) _ _).2,q2⟩
  rw[if_neg h];refine Kc.2 ⟨fun y hy=>?_,tQ hk' q2 fun y hy=>hn y (Kb z hy)⟩;rcases sA hk' y hy with h1|⟨l,b,rfl⟩
  ·exact q1 y h1.1
  exact(hn z Zm h _ _).1
theorem nC.push{q:List QE}(h:nC q)(c:Nat)(i j:Int)(o:Own)(x:Own×Nt):nC (lQ q c i j o x):=
 tQ h h fun y _ hy l b=>⟨fun e=>hy (fz.2 e),fun e=>hy (fz.2 ⟨e.1.symm,e.2.symm⟩)⟩
theorem QOK.push{n0:Nat}{h h2:Hp}{q:List QE}(H:QOK n0 h q){c a:Nat}{i j:Int}{x:Own×Nt}(h0:n0≤a)(ha:h2 a=some .tip)(hf:∀y∈q,¬y.at' i j=true→y.o≠ .tok a∧∀b,y.o= .tok b→h2 b=h b):QOK n0 h2 (lQ q c i j (.tok a) x):=by
 refine⟨fun y hy=>?_,tQ H.key H.td fun y hy h l b=>⟨(hf y hy h).1,fun e=>(hf y hy h).1 e.symm⟩,H.key.push ..,fun y hy=>?_⟩
 ·rcases sA H.key y hy with h1|⟨l,b,rfl⟩
  ·obtain⟨b,h3,h5,h4⟩:=H.tk y h1.1;exact⟨b,h3,h5,by rw[(hf y h1.1 h1.2).2 b h3];exact h4⟩
  exact⟨a,rfl,h0,ha⟩
 rcases sA H.key y hy with h1|⟨l,b,rfl⟩
 ·exact H.ne y h1.1
 simp
theorem rY{i j:Int}:∀{q:List QE},nC q→∀y∈iM q i j,(y∈q∧¬y.at' i j=true)∨∃z∈q,z.at' i j=true∧y=⟨i,j,z.o,z.l.tail,z.b⟩
 | [],_,y,hy=>by cases hy
 |z::q,hk,y,hy=>by
  rw[mJ] at hy;by_cases h:z.at' i j=true
  ·rw[if_pos h] at hy;rcases Ks.1 hy with rfl|hy
   ·exact .inr ⟨z,Zm,h,rfl⟩
   exact .inl ⟨Kb z hy,wM hk h y hy⟩
  rw[if_neg h] at hy;rcases Ks.1 hy with rfl|hy
  ·exact .inl ⟨Zm,h⟩
  rcases rY (Kc.1 hk).2 y hy with h1|⟨w,h1,h2⟩
  ·exact .inl ⟨Kb z h1.1,h1.2⟩
  exact .inr ⟨w,Kb z h1,h2⟩
theorem br(i j:Int):∀q:List QE,(iM q i j).map (fun x=>(x.i,x.j,x.o))=q.map fun x=>(x.i,x.j,x.o)
 | []=>rfl
 |z::q=>by
  rw[mJ];by_cases h:z.at' i j=true
  ·rw[if_pos h];obtain⟨rfl,rfl⟩:=fz.1 h;rfl
  rw[if_neg h,Kz,Kz,br i j q]
theorem bt(R:Int×Int×Own→Int×Int×Own→Prop){q:List QE}{i j:Int}(h:q.Pairwise fun x y=>R (x.i,x.j,x.o) (y.i,y.j,y.o)):(iM q i j).Pairwise fun x y=>R (x.i,x.j,x.o) (y.i,y.j,y.o):=by
 have:=KE.2 h;rw[←br i j q] at this;exact KE.1 this
theorem z6{q:List QE}(hk:nC q){y:QE}(hy:y∈q){i j:Int}(h:y.at' i j=true):dH q i j=y.l:=by
 induction q with
 |nil=>cases hy
 |cons z q ih=>
  rw[cE];rcases Ks.1 hy with rfl|hy
  ·rw[if_pos h]
  rw[if_neg (fun e=>wM hk e y hy h),ih (Kc.1 hk).2 hy]
def tR(q:List QE)(i j:Int):List QE:=if (dH q i j).tail=[] then zW (iM q i j) i j else iM q i j
theorem Bo(q:List QE)(i j:Int):(zW q i j).Sublist q:=by
 unfold zW;split
 ·exact List.eraseIdx_sublist ..
 exact List.Sublist.refl _
theorem qm{i j:Int}:∀{q:List QE},nC q→∀y∈zW q i j,y∈q∧¬y.at' i j=true
 | [],_,y,hy=>by cases hy
 |z::q,hk,y,hy=>by
  rw[xT] at hy;by_cases h:z.at' i j=true
  ·rw[if_pos h] at hy;exact⟨Kb z hy,wM hk h y hy⟩
  rw[if_neg h] at hy;rcases Ks.1 hy with rfl|hy
  ·exact⟨Zm,h⟩
  have:=qm (Kc.1 hk).2 y hy;exact⟨Kb z this.1,this.2⟩
theorem nC.tail{q:List QE}(h:nC q)(i j:Int):nC (iM q i j):=bt (fun a b=>¬(a.1=b.1∧a.2.1=b.2.1)) h
theorem Bn(q:List QE)(i j:Int):(tR q i j).Sublist (iM q i j):=by
 unfold tR;split
 ·exact Bo ..
 exact List.Sublist.refl _
theorem QOK.pop{n0:Nat}{h:Hp}{q:List QE}(H:QOK n0 h q)(i j:Int):QOK n0 h (tR q i j):=by
 have hs:=Bn q i j;refine⟨fun y hy=>?_,(bt (fun a b=>a.2.2≠b.2.2) H.td).sublist hs,(H.key.tail i j).sublist hs,fun y hy=>?_⟩
 ·rcases rY H.key y (hs.subset hy) with h1|⟨z,h1,_,rfl⟩
  ·exact H.tk y h1.1
  exact H.tk z h1
 unfold tR at hy;split at hy
 ·rename_i e;obtain⟨h1,h2⟩:=qm (H.key.tail i j) y hy;rcases rY H.key y h1 with h3|⟨z,_,_,rfl⟩
  ·exact H.ne y h3.1
  exact absurd (nN i j _ _ _) h2
 rename_i e;rcases rY H.key y hy with h3|⟨z,h3,h4,rfl⟩
 ·exact H.ne y h3.1
 rw[z6 H.key h3 h4] at e;exact e
theorem Cw{q:List QE}(hk:nC q)(i j:Int):dH (tR q i j) i j=(dH q i j).tail:=by
 unfold tR;split
 ·rename_i e;rw[ye (hk.tail i j),e]
 exact qj i j q
theorem vm{i j i' j':Int}(hn:¬(i'=i∧j'=j))(q:List QE):dH (tR q i j) i' j'=dH q i' j':=by
 unfold tR;split
 ·rw[bw hn,qU hn]
 exact qU hn q
theorem Ei{q:List QE}{n0:Nat}{h:Hp}(H:QOK n0 h q)(he:∀i j,dH q i j=[]):q=[]:=by
 cases q with
 |nil=>rfl
 |cons y q=>
  have h1:=H.ne y Zm;have h2:=he y.i y.j;rw[cE,if_pos (fz.2 ⟨rfl,rfl⟩)] at h2;exact absurd h2 h1
structure WI(n0:Nat)(h:Hp)(nx wb nb tb:Nat)(vo:Own)(vs:List Nat)(P:Int)(wv lc:V)(ot:Own)(rows:List V)(S:Nat→CS)(Q:Int→Int→List Nt):Prop where
 q:∃q c,iJ h wb tb nb (.sl .leaf ot rows) vo vs q c∧QOK n0 h q∧∀i j,(dH q i j).map Prod.snd=Q i j
 dom:aK h nx
 c:∀i (hi:i<(tb::vs).length),∃m,m≠nb∧eV h (tb::vs)[i] m P wv lc (S i).1 (S i).2
 d:(tb::vs).Nodup
 lo:n0≤nb∧∀x∈tb::vs,n0≤x
def Fr(n0:Nat)(cs:List Nat)(h h2:Hp):Prop:=(∀x,x<n0→h2 x=h x)∧∀x k es,x∉cs→h x=some (.arr k es)→h2 x=h x
theorem Fr.refl(n0:Nat)(cs:List Nat)(h:Hp):Fr n0 cs h h:=⟨fun _ _=>rfl,fun _ _ _ _ _=>rfl⟩
theorem Fr.trans{n0:Nat}{cs:List Nat}{h h2 h3:Hp}(a:Fr n0 cs h h2)(b:Fr n0 cs h2 h3):Fr n0 cs h h3:=
 ⟨fun x hx=>(b.1 x hx).trans (a.1 x hx),fun x k es hx he=>(b.2 x k es hx ((a.2 x k es hx he).trans he)).trans (a.2 x k es hx he)⟩
theorem Fr.of{n0 nx:Nat}{cs:List Nat}{h h2:Hp}(hd:aK h nx)(hn:n0≤nx)(hk:∀x,x<nx→h2 x=h x):Fr n0 cs h h2:=⟨fun x hx=>hk x or,fun x _ _ _ he=>hk x (hd _ _ he)⟩
section
variable{h h2:Hp}{n0 nx nx2 wb nb tb:Nat}{vo:Own}{vs:List Nat}{P:Int}{wv lc:V}{ot:Own}{rows:List V}{S:Nat→CS}{Q:Int→Int→List Nt}
theorem WI.t(H:WI n0 h nx wb nb tb vo vs P wv lc ot rows S Q):∃m,m≠nb∧eV h tb m P wv lc (S 0).1 (S 0).2:=H.c 0 Zm
theorem WI.v(H:WI n0 h nx wb nb tb vo vs P wv lc ot rows S Q)(i:Nat)(hi:i<vs.length):∃m,m≠nb∧eV h vs[i] m P wv lc (S (i+1)).1 (S (i+1)).2:=H.c (i+1) (by simpa using hi)
theorem Bv{l:List Nat}(h:l.Nodup){i j:Nat}(hi:i<l.length)(hj:j<l.length)(e:i≠j):l[i]≠l[j]:=by
 have h:=List.pairwise_iff_getElem.1 h;rcases Nat.lt_or_gt_of_ne e with k|k
 ·exact h i j hi hj k
 exact fun e2=>h j i hj hi k e2.symm
theorem rP{h:Hp}{a b:Nat}{k:Sh}{es:List V}{e2:List ME}{c:Nat}(h1:h a=some (.arr k es))(h2:h b=some (.mp e2 c)):a≠b:=fun e=>by rw[e,h2] at h1;cases h1
theorem Cs{h:Hp}{a b:Nat}{k:Sh}{es:List V}(h1:h a=some (.arr k es))(h2:h b=some .tip):a≠b:=fun e=>by rw[e,h2] at h1;cases h1
theorem uq{h:Hp}{a b:Nat}{e2:List ME}{c:Nat}(h1:h a=some (.mp e2 c))(h2:h b=some .tip):a≠b:=fun e=>by rw[e,h2] at h1;cases h1
theorem od{a b c:V}{ot:Own}{rows:List V}{h:Hp}{wb cb:Nat}{P:Int}{wv lv:V}{m:Nat}(h1:h wb=some (.arr (.agg 4) [.agg [.sl .leaf ot rows,a,b,c]]))(h2:h cb=some (.arr (.agg 4) [lM P wv lv m])):wb≠cb:=fun e=>by
 rw[e,h2] at h1;simp[lM] at h1
theorem WI.aBP(H:WI n0 h nx wb nb tb vo vs P wv lc ot rows S Q)(hk:∀x,x<nx→h2 x=h x)(hd:aK h2 nx2):WI n0 h2 nx2 wb nb tb vo vs P wv lc ot rows S Q:=by
 obtain⟨q,c,hw,hq,hl⟩:=H.q;refine⟨⟨q,c,⟨?_,?_⟩,⟨fun x hx=>?_,hq.td,hq.key,hq.ne⟩,hl⟩,hd,fun i hi=>?_,H.d,H.lo⟩
 ·rw[hk _ (H.dom _ _ hw.cell)];exact hw.cell
 ·rw[hk _ (H.dom _ _ hw.mp)];exact hw.mp
 ·obtain⟨b,h1,h0,h3⟩:=hq.tk x hx;exact⟨b,h1,h0,by rw[hk _ (H.dom _ _ h3)];exact h3⟩
 obtain⟨m,hm,hc⟩:=H.c i hi;exact⟨m,hm,by rw[hk _ (H.dom _ _ hc.cell)];exact hc.cell,by rw[hk _ (H.dom _ _ hc.mp)];exact hc.mp,hc.wf,hc.lf⟩
theorem WI.apply(H:WI n0 h nx wb nb tb vo vs P wv lc ot rows S Q)(i:Nat)(hi:i<(tb::vs).length)(hk:∀x,x<nx→x≠(tb::vs)[i]→h2 x=h x)(hd:aK h2 nx2){X:CS}
 {m2 m:Nat} (hm:m2=m∨nx≤m2) (hmb:m≠nb) (hc:eV h2 (tb::vs)[i] m2 P wv lc X.1 X.2):WI n0 h2 nx2 wb nb tb vo vs P wv lc ot rows (gU S i X) Q:=by
 obtain⟨q,c,hw,hq,hl⟩:=H.q;obtain⟨m0,hm0,hc0⟩:=H.c i hi;have hnb:=H.dom _ _ hw.mp;refine⟨⟨q,c,⟨?_,?_⟩,⟨fun x hx=>?_,hq.td,hq.key,hq.ne⟩,hl⟩,hd,fun j hj=>?_,H.d,H.lo⟩
 ·rw[hk _ (H.dom _ _ hw.cell) (od hw.cell hc0.cell)];exact hw.cell
 ·rw[hk _ hnb (rP hc0.cell hw.mp).symm];exact hw.mp
 ·obtain⟨b,h1,h0,h3⟩:=hq.tk x hx;exact⟨b,h1,h0,by rw[hk _ (H.dom _ _ h3) (Cs hc0.cell h3).symm];exact h3⟩
 unfold gU;by_cases e:j=i
 ·subst e;rw[if_pos rfl];exact⟨m2,by rcases hm with h|h<;>omega,hc⟩
 rw[if_neg e];obtain⟨m1,hm1,hc1⟩:=H.c j hj;have hne:(tb::vs)[j]≠(tb::vs)[i]:=Bv H.d hj hi e;exact⟨m1,hm1,hc1.other H.dom hne (rP hc0.cell hc1.mp).symm hk⟩
theorem WI.queue(H:WI n0 h nx wb nb tb vo vs P wv lc ot rows S Q){q2:List QE}{c2:Nat}{Q2:Int→Int→List Nt}(hk:∀x k es,h x=some (.arr k es)→h2 x=h x)(hkm:∀x es k,x≠nb→h x=some (.mp es k)→h2 x=h x)(hd:aK h2 nx2)(hm:h2 nb=some (.mp (q2.map QE.me) c2))(hq2:QOK n0 h2 q2)(hl:∀i j,(dH q2 i j).map Prod.snd=Q2 i j):WI n0 h2 nx2 wb nb tb vo vs P wv lc ot rows S Q2:=by
 obtain⟨q,c,hw,hq,_⟩:=H.q;refine⟨⟨q2,c2,⟨?_,hm⟩,hq2,hl⟩,hd,fun i hi=>?_,H.d,H.lo⟩
 ·rw[hk _ _ _ hw.cell];exact hw.cell
 obtain⟨m,hm,hc⟩:=H.c i hi;exact⟨m,hm,by rw[hk _ _ _ hc.cell];exact hc.cell,by rw[hkm _ _ _ hm hc.mp];exact hc.mp,hc.wf,hc.lf⟩
end
end Go.Proofs.YtecepaehmojpgaaGreat
