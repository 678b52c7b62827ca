/-
Texts of this proof,one behind the other. No conditions.
-/
import Derived.Test.YtlhedpgobaellaaGreatDoorKy
import Derived.Test.YtlhedpgobaellaaGreatDoorKz
open List renaming mem_singleton→Ka,mem_cons_of_mem→Kb,getD_eq_getElem?_getD→Kc,mem_cons→Kd,getElem?_eq_getElem→Ke,mem_cons_self→Kf,mem_append→Kg,drop_eq_getElem_cons→Ki,drop_of_length_le→Kj,append_nil→Kk,mem_range→Km,getElem_mem→Kp
open Nat renaming zero_le→Kh,lt_or_ge→Ko
open Nat renaming reduceAdd→jA,reduceSub→jB,reduceLT→jC,reduceLeDiff→jD,reduceEqDiff→jE
open Int renaming reduceToNat→jF,toNat_natCast→jG,natCast_add→jH,natCast_one→jI,natCast_zero→jJ
open List renaming length_map→jK
set_option linter.all false
set_option maxHeartbeats 8000000
namespace Go.Proofs.YtlhedpgobaellaaGreatDoor
open Go.RowKit Go.Sort
attribute [local irreducible] IntKind.wrap
def mb(x:Li):Int→List Fc→Int
 |n,[]=>n
 |n,f::r=>mb x (if x.k=1∧f.r=x.a.r then IntKind.i64.wrap (n*xR true 1 f.l.length) else n) r
def A1(l:List Fc):Int→List Li→Bool
 |n,[]=>true
 |n,x::r=>if 4000<mb x n l then false else A1 l (mb x n l) r
def Fh(r:Ru)(l:List Fc):Bool:=A1 l 1 r.b&&decide (0≤x9 r)
theorem AZ(x:Li)(n:Int)(f:Fc)(r:List Fc):mb x n (f::r)=mb x (if x.k=1∧f.r=x.a.r then IntKind.i64.wrap (n*xR true 1 f.l.length) else n) r:=rfl
theorem A0(l:List Fc)(n:Int)(x:Li)(r:List Li):A1 l n (x::r)=if 4000<mb x n l then false else A1 l (mb x n l) r:=rfl
theorem Fc.aAD(f:Fc):f.v.fits (.agg 3)=true:=rfl
theorem CI(r:Ru)(hr:r.s47)(hb:r.b.length≤140737488355328)(o:Own)(l:List Fc)(hl:l.length≤140737488355328)(h:Hp):aL Tryz.prog 9 [r.v, .sl (.agg 3) o (l.map Fc.v)] h (.bool (Fh r l)):=by
 refine aI (fun L=>trivial) fun h' nx hh=>aB L.g3z fun hd=>?_;have C1:=u0 r hr;have hf:r.v.fits (.agg 6)=true:=by cases r;rfl
 unfold Fh;obtain⟨BV,hBV,hbv⟩:∃BV,r.v= .agg BV∧BV.getD 4 (.tup [])= .sl (.agg 17) r.o (r.b.map Li.v):=by cases r;exact⟨_,rfl,rfl⟩
 rw[hBV] at C1 hf⊢;obtain⟨B,hB⟩:∃B,r.b=B:=⟨_,rfl⟩;obtain⟨ro,hro⟩:∃ro,r.o=ro:=⟨_,rfl⟩;rw[hB] at hbv hb⊢;rw[hro] at hbv;have hbl:(B.map Li.v).length=B.length:=jK ..;have hml:(l.map Fc.v).length=l.length:=jK ..;generalize x9 r=RC at*;obtain⟨RES,aA1⟩:∃R,A1 l 1 B=R:=⟨_,rfl⟩;rw[aA1];refine ZK ?_;refine aue (e3 hf hbv hbl) ?_
 refine aP (fun q:Nat×Int=>aD 47 0 [(1, .sl (.agg 3) o (l.map Fc.v)),(2, .ptr nx (.agg 6) 0 0),(5, .int .i64 q.2),(11, .sl (.agg 17) ro (B.map Li.v)),(12, .int .i64 B.length),(13, .int .i64 q.1)])
  (fun q hp nx1=>q.1≤B.length∧nx<nx1∧aV hp nx1∧Hp.same nx h' hp∧hp nx=some (.arr (.agg 6) [.agg BV])∧A1 l q.2 (B.drop q.1)=RES)
  (fun q=>B.length-q.1) (0,1) ⟨Kh _,Zw,by exact dmo hd,by exact kep Hp.same.aA0,by simp only[go_sem,reduceIte,jA,jB,jC,jD,reduceCtorEq,jE,jF],aA1⟩ (by simp only[WkL,aD,jH,jI,jJ,hml,hbl,go_sem,reduceIte,jA,jB,jC,jD,reduceCtorEq,jE,jF]) ?_
 rintro⟨i,n⟩ hp nx1 ⟨hi,hnx,hdm,hsm,hb0,hmt⟩;generalize hQ:bB _ _ _ _ _=Q0;dsimp only at hi hmt;refine Zk ?_;have hle:=hsm.le hd (Hp.le_refl _);rcases Ko i B.length with hlt|hge
 ·have hc:decide ((i:Int)<(B.length:Int))=true:=dct;have hg:=aO Li.v B i hlt;have hw:IntKind.i64.wrap ((i:Int)+1)=((i+1:Nat):Int):=wrp;rw[Ki hlt,A0] at hmt;generalize B[i]=x at*;have hfx:=Li.aAD x;obtain⟨T,hT,htk,htr⟩:∃T,x.v= .agg T∧T.getD 0 (.tup [])= .int .i64 x.k∧T.getD 1 (.tup [])= .str x.a.r:=⟨_,rfl,rfl,rfl⟩;rw[hT] at hg hfx;obtain⟨FN,hFN⟩:∃F,mb x n l=F:=⟨_,rfl⟩;rw[hFN] at hmt;have hTc:T.length=17∧T.all V.aAE=true:=by simpa [V.fits] using hfx
  refine aue (e9 hc hg hlt hbl jG hfx hml hTc.1 hTc.2) ?_
  refine aP (fun q:Nat×Int=>aD 47 0 [(1, .sl (.agg 3) o (l.map Fc.v)),(2, .ptr nx (.agg 6) 0 0),(5, .int .i64 q.2),(7, .ptr nx1 (.agg 17) 0 0),(11, .sl (.agg 17) ro (B.map Li.v)),(12, .int .i64 B.length),(13, .int .i64 i),(17, .sl (.agg 3) o (l.map Fc.v)),(18, .int .i64 l.length),(19, .int .i64 q.1)])
   (fun q hp nx2=>q.1≤l.length∧nx1<nx2∧aV hp nx2∧Hp.same nx h' hp∧hp nx=some (.arr (.agg 6) [.agg BV])∧hp nx1=some (.arr (.agg 17) [.agg T])∧mb x q.2 (l.drop q.1)=FN)
   (fun q=>l.length-q.1) (0,n) ⟨Kh _,Zw,by exact dmo hdm,by exact kep hsm,by simp only[hb0,(fls:(nx=nx1)=False),go_sem,reduceIte,jA,jB,jC,jD,reduceCtorEq,jE,jF],by simp only[go_sem,reduceIte,jA,jB,jC,jD,reduceCtorEq,jE,jF],hFN⟩ (by simp only[WkL,aD,jH,jI,jJ,hml,hbl,go_sem,reduceIte,jA,jB,jC,jD,reduceCtorEq,jE,jF]) ?_
  clear hb0 hdm hsm;rintro⟨j,m⟩ hp2 nx2 ⟨hj,aGN,hdm,hsm,hb0,hb1,aDi⟩;generalize hQ2:bB _ _ _ _ _=Q2;dsimp only at hj aDi;refine Zk ?_;have aAV:=hsm.le hd (Hp.le_refl _);rcases Ko j l.length with hjl|hjg
  ·have hcj:decide ((j:Int)<(l.length:Int))=true:=dct;have hgj:=aO Fc.v l j hjl;have hwj:IntKind.i64.wrap ((j:Int)+1)=((j+1:Nat):Int):=wrp;rw[Ki hjl,AZ] at aDi;generalize l[j]=F at*;have hFf:=Fc.aAD F;have hFv:F.v= .agg [.str F.r, .int .i64 F.ar, .sl .leaf F.o (F.l.map TR.v)]:=rfl;have hFl:(F.l.map TR.v).length=F.l.length:=jK ..;rw[hFv] at hgj;by_cases k1:x.k=1
   ·have g1:(x.k==1)=true:=bqt;by_cases k2:F.r=x.a.r
    ·rw[if_pos ⟨k1,k2⟩] at aDi;have gs:(F.r.toList==x.a.r.toList)=true:=by rw[dS];exact decide_eq_true k2
     refine aue (e11 hcj hgj hjl hml jG hb1 aGN htk g1 hwj (e3 hFl htr gs)) ?_;rw[←hQ2];exact aG (j+1,_) Zw ⟨hjl,or,dmo hdm,kep hsm,by simp only[hb0,(fls:(nx=nx2)=False),go_sem,reduceIte,jA,jB,jC,jD,reduceCtorEq,jE,jF],by simp only[hb1,(fls:(nx1=nx2)=False),go_sem,reduceIte,jA,jB,jC,jD,reduceCtorEq,jE,jF],aDi⟩ (by simp only[WkL,aD,jH,jI,jJ,hwj,go_sem,reduceIte,jA,jB,jC,jD,reduceCtorEq,jE,jF])
    rw[if_neg (fun e=>k2 e.2)] at aDi;have gs:(F.r.toList==x.a.r.toList)=false:=by rw[dS];exact decide_eq_false k2
    refine aue (e11 hcj hgj hjl hml jG hb1 aGN htk g1 hwj (e3 hFl htr gs)) ?_;rw[←hQ2];exact aG (j+1,m) Zw ⟨hjl,or,dmo hdm,kep hsm,by simp only[hb0,(fls:(nx=nx2)=False),go_sem,reduceIte,jA,jB,jC,jD,reduceCtorEq,jE,jF],by simp only[hb1,(fls:(nx1=nx2)=False),go_sem,reduceIte,jA,jB,jC,jD,reduceCtorEq,jE,jF],aDi⟩ (by simp only[WkL,aD,jH,jI,jJ,hwj,go_sem,reduceIte,jA,jB,jC,jD,reduceCtorEq,jE,jF])
   have g1:(x.k==1)=false:=bqf;rw[if_neg (fun e=>k1 e.1)] at aDi;refine aue (e11 hcj hgj hjl hml jG hb1 aGN htk g1 hwj hFl) ?_;rw[←hQ2];exact aG (j+1,m) Zw ⟨hjl,or,dmo hdm,kep hsm,by simp only[hb0,(fls:(nx=nx2)=False),go_sem,reduceIte,jA,jB,jC,jD,reduceCtorEq,jE,jF],by simp only[hb1,(fls:(nx1=nx2)=False),go_sem,reduceIte,jA,jB,jC,jD,reduceCtorEq,jE,jF],aDi⟩ (by simp only[WkL,aD,jH,jI,jJ,hwj,go_sem,reduceIte,jA,jB,jC,jD,reduceCtorEq,jE,jF])
  have hcj:decide ((j:Int)<(l.length:Int))=false:=dcf;rw[Kj or] at aDi;have hmF:m=FN:=aDi;subst hmF;by_cases g4:4000<m
  ·have g5:decide (m>4000)=true:=decide_eq_true g4;rw[if_pos g4] at hmt;refine aue (e2 hcj g5) ?_;rw[←hQ2];refine aue g5 ?_;rw[←hQ];refine au ?_;refine aC h' (lef hd aAV) ⟨?_,rfl⟩;rw[←hmt];rfl
  have g5:decide (m>4000)=false:=decide_eq_false g4;rw[if_neg g4] at hmt;refine aue (e2 hcj g5) ?_;rw[←hQ2];refine aue (e2 g5 hw) ?_;rw[←hQ];exact aG (i+1,m) Zw ⟨hlt,or,hdm,hsm,hb0,hmt⟩ (by simp only[WkL,aD,jH,jI,jJ,hw,go_sem,reduceIte,jA,jB,jC,jD,reduceCtorEq,jE,jF])
 have hc:decide ((i:Int)<(B.length:Int))=false:=dcf;rw[Kj or] at hmt;have hRt:RES=true:=hmt.symm;have hg2:decide (RC≥0)=decide (0≤RC):=rfl;refine aue hc ?_;rw[←hQ];refine aue (e3 hb0 hnx hf) ?_;refine aC h' (lef hd hle) ⟨?_,rfl⟩;rw[hRt];rfl
set_option maxRecDepth 100000
def iB(a b:Int):List Vl:=[⟨1,a,⟨#[]⟩⟩,⟨1,b,⟨#[]⟩⟩]
theorem rR(a b:Int)(h:Hp):aL Tryz.prog 37 [.int .i64 a, .int .i64 b] h (vls .free (iB a b)):=by
 refine fE (fun L=>vQ _ Zm L) fun h' nx hh=>aB L.aYN fun hd=>?_;refine ZK ?_;refine au ?_;exact aC _ (Hp.le_refl _) ⟨rfl,leo hd⟩
def Dp:List Sr:=[⟨⟨#[101]⟩,2,[(.free,iB 1 2),(.free,iB 2 3)]⟩]
theorem Ft(o:Own):ez 0 0 [] [⟨⟨#[101]⟩,2,o,[(.free,iB 1 2),(.free,iB 2 3)]⟩]=some Dp:=Zz
theorem Do:l9 (dJ Dp) Bk=([iB 1 3],0):=Zz
theorem Fw:∀s∈Dp,fB s.ar s.zs:=fun s hs=>by
 have:s=⟨⟨#[101]⟩,2,(dD 2 [(.free,iB 1 2),(.free,iB 2 3)]).1⟩:=by
  rw[Ka.1 hs];have e:dD 2 [(.free,iB 1 2),(.free,iB 2 3)]=([(.free,iB 1 2),(.free,iB 2 3)],0):=Zz;rw[e]
 rw[this];exact kz fun p hp e=>by
  rcases Kd.1 hp with rfl|hp
  ·cases e
  rcases Kd.1 hp with rfl|hp
  ·cases e
  cases hp
theorem fy:aR Tryz.prog 7 [] Hp.none 0 fun v _ _=>v= .bool true:=by
 refine aB L.g1z fun hd=>?_;refine ZK ?_;obtain⟨X,hX,aX,CP⟩:=Dn;have hrf:Bk.v.fits (.agg 6)=true:=rfl;generalize hDC:aS.ops L.aJy=DC;refine aus ?_;rw[←hDC];refine bK (bS ?_);refine aU (CP.dom.mono ?_);rintro v h2 nx2 aAV ⟨⟨rfl,rfl,rfl⟩,hd2,_⟩;unfold bT;refine Zn ?_;generalize hRV:Bk.v=RV at*;generalize hDC:aS.ops L.aJx=DC;refine aue hrf ?_;rw[←hDC];refine bK (bS ?_);have T12:=rR 1 2;have T23:=rR 2 3;have T13:=rR 1 3;have f12:(vls .free (iB 1 2)).fits .leaf=true:=rfl;have f23:(vls .free (iB 2 3)).fits .leaf=true:=rfl;have hve:veq (.iface true) .nilIface .nilIface=some true:=rfl;generalize h12:vls .free (iB 1 2)=V12 at*;generalize h23:vls .free (iB 2 3)=V23 at*;generalize h13:vls .free (iB 1 3)=V13 at*;refine aue hrf ?_;refine cM rfl (T12 _) rfl (aH _) ?_;refine aue hrf ?_;refine cM rfl (T23 _) rfl (aH _) ?_;have l12:V12.aAE=true:=by rw[←h12];rfl
 have l23:V23.aAE=true:=by rw[←h23];rfl
 have l13:V13.aAE=true:=by rw[←h13];rfl
 have f13:V13.fits .leaf=true:=by rw[←h13];rfl
 refine aue (e4 f12 f23 l12 l23) ?_;have CS:=fun h nx=>sY (.tok (nx2+3)) [⟨⟨#[101]⟩,2, .tok (nx2+2),[(.free,iB 1 2),(.free,iB 2 3)]⟩] Zm (fun f hf=>by
  rw[Ka.1 hf];refine⟨Zm,fun p hp=>?_⟩;rcases Kd.1 hp with rfl|hp
  ·exact⟨fun e=>by(cases e),by intro v hv;rcases Kd.1 hv with rfl|hv;exact Kh _;rw[Ka.1 hv];exact Kh _⟩
  rw[Ka.1 hp];exact⟨fun e=>by(cases e),by intro v hv;rcases Kd.1 hv with rfl|hv;exact Kh _;rw[Ka.1 hv];exact Kh _⟩) h nx
 have hFv:([⟨⟨#[101]⟩,2, .tok (nx2+2),[(.free,iB 1 2),(.free,iB 2 3)]⟩]:List Fc).map Fc.v=[.agg [.str ⟨#[101]⟩, .int .i64 2, .sl .leaf (.tok (nx2+2)) [V12,V23]]]:=by rw[←h12,←h23];rfl
 rw[hFv,Ft] at CS;refine aU ((CS _ _).dom.mono ?_);rintro v h3 nx3 aCq ⟨⟨⟨N,es,c,oS,rfl,hN0,hN,hst,_⟩,hk3⟩,hd3,_⟩;unfold bT;refine Zn ?_;have hb3:h3 nx2=some (.arr (.agg 6) [RV]):=by
  rw[hk3 nx2 Zw];simp only[(fls:(nx2=nx2+2)=False),(fls:(nx2=nx2+3)=False),go_sem,reduceIte,jA,jB,jC,jD,reduceCtorEq,jE,jF]
 have n3:nx2<nx3:=hd3 _ _ hb3;have hN3:N<nx3:=hd3 _ _ hN;generalize Dp.map nmD=NM;generalize hDC:aS.ops L.aJw=DC;refine aue hve ?_;rw[←hDC];refine bK (bS ?_);have CH:=l7 Bk Dp Fw;rw[Do,hRV] at CH;have aDr:V.tup [lst .leaf (([iB 1 3],(0:Int)).1.map fun t=>vls .free t),fM ([iB 1 3],(0:Int)).2]= .tup [.sl .leaf .free [V13], .nilIface]:=by rw[←h13];rfl
 rw[aDr] at CH;refine aue (e3 hb3 n3 hrf) ?_;refine aU ((CH _ _ N es c hN hst ZM).dom.mono ?_);rintro v h4 nx4 aDk ⟨⟨rfl,_⟩,hd4,_⟩;unfold bT;refine Zn ?_;refine aue hve ?_;refine cM rfl (T13 _) rfl (aH _) ?_;have TN:=fun o h=>zS .free o [(.free,iB 1 3)] [(.free,iB 1 3)] Zm (by simp[iB]) h;have hdt:decide (aQ [((.free,iB 1 3):TR)]=aQ [((.free,iB 1 3):TR)])=true:=decide_eq_true rfl;have aV9:∀o,tps o [(.free,iB 1 3)]= .sl .leaf o [V13]:=fun o=>by rw[←h13];rfl
 simp only[aV9,hdt] at TN;refine aue (e2 f13 l13) ?_;refine aJ (TN _ _) rfl (aH _) ?_;refine au ?_;exact aC _ (Hp.le_refl _) rfl
theorem m7(h:Hp):aL Tryz.prog 7 [] h (.bool true):=(Aj fy).mono (bA h)
end Go.Proofs.YtlhedpgobaellaaGreatDoor
namespace Go.Proofs.YtlhedpgobaellaaGreatDoor
open Go.RowKit Go.Sort
theorem rU{t:Tr}{l:List Tr}(h:(cQ t l).2=0)(m:List Tr):cQ t (l++m)=cQ t l:=by
 unfold cQ at h⊢;by_cases h0:t.x.size=0
 ·rw[if_pos h0,if_pos h0]
 rw[if_neg h0] at h⊢;rw[if_neg h0];cases k:lkB t.x l with
 |none=>rw[k] at h;cases h
 |some w=>rw[aw k]
theorem BQ{p:Vl×Int}(h:(mC p).2=0):p.2=0:=by
 unfold mC at h;split at h
 ·rename_i h1;exact absurd h h1
 rename_i h1;simpa using h1
theorem lZ{l:List Tr}(m:List Tr):∀(n:Nat) (e:Ex),(bV l n e).2=0→bV (l++m) n e=bV l n e
 |0, .mk op t o ks,h=>rU h m
 |n+1, .mk op t o ks,h=>by
  unfold bV at h⊢;by_cases h0:op=0
  ·rw[if_pos h0] at h;rw[if_pos h0,if_pos h0];exact rU h m
  rw[if_neg h0] at h;rw[if_neg h0,if_neg h0];match ks with
  | [a,b]=>
   simp only at h⊢;by_cases h1:(mC (bV l n a)).2=0
   ·rw[if_neg (by simpa using h1)] at h;by_cases h2:(mC (bV l n b)).2=0
    ·rw[lZ m n a (BQ h1),lZ m n b (BQ h2)]
    rw[if_pos h2] at h;exact absurd h h2
   rw[if_pos h1] at h;exact absurd h h1
  | []=>rfl
  | [_]=>rfl
  |_::_::_::_=>rfl
theorem ah{l:List Tr}(m:List Tr):∀(ts:List Tr) (acc:List Vl),(lQ l acc ts).2=0→lQ (l++m) acc ts=lQ l acc ts
 | [],acc,h=>rfl
 |t::r,acc,h=>by
  rw[lP] at h⊢;by_cases e:(cQ t l).2=0
  ·rw[if_neg (by simpa using e)] at h;rw[rU e,lP,if_neg (by simpa using e),if_neg (by simpa using e)];exact ah m r _ h
  rw[if_pos e] at h;exact absurd h e
theorem uz{a:Am}{l:List Tr}(h:(cY a l).2=0)(m:List Tr):cY a (l++m)=cY a l:=by
 unfold cY at h⊢;by_cases e:6<a.l.length
 ·rw[if_pos e,if_pos e]
 rw[if_neg e] at h;rw[if_neg e,if_neg e];exact ah m _ _ h
theorem tu{x:Li}{l:List Tr}(h:lD l x=(true,0))(m:List Tr):lD (l++m) x=(true,0):=by
 have h':=h;unfold lD at h⊢;by_cases e1:(bV l 20 x.x).2=0
 ·rw[if_neg (by simpa using e1)] at h;by_cases e2:(bV l 20 x.y).2=0
  ·rw[if_neg (by simpa using e2)] at h;rw[lZ m _ _ e1,lZ m _ _ e2,if_neg (by simpa using e1),if_neg (by simpa using e2)];exact h
  rw[if_pos e2] at h;cases h
 rw[if_pos e1] at h;cases h
def rtB(l:List Tr):Prop:=∀t∈l,bO t.w=true
theorem ya{l:List Tr}(h:rtB l){t:Tr}(ht:bO t.w=true):rtB (l++[t]):=fun x hx=>by
 rcases Kg.1 hx with q|q
 ·exact h x q
 rw[Ka.1 q];exact ht
theorem Cn{x:ByteArray}{w:Vl}{l:List Tr}(h:lkB x l=none)(m:List Tr):lkB x (l++[⟨x,w⟩]++m)=some w:=aw (by rw[yG,h];simp) m
theorem af:∀{ts:List Tr} {vs:List Vl} {l l2:List Tr},ts.length=vs.length→mI ts vs l=some l2→rtB l→(∀v∈vs,bO v=true)→rtB l2∧∀acc,lQ l2 acc ts=(acc++vs,0)
 | [],[],l,l2,_,h,hl,_=>by
  have:some l=some l2:=h;injection this with e;subst e;exact⟨hl,fun acc=>by simp[lQ]⟩
 |a::r,v::vs,l,l2,hn,h,hl,hv=>by
  have hv0:=hv v Kf;have key:∀{l0:List Tr},mI r vs l0=some l2→rtB l0→cQ a l2=(v,0)→rtB l2∧∀acc,lQ l2 acc (a::r)=(acc++v::vs,0):=fun h1 h2 h3=>
   have⟨p,q⟩:=af (by simpa using hn) h1 h2 fun x hx=>hv x (Kb _ hx)
   ⟨p,fun acc=>by rw[lP,h3,if_neg Zm,q];simp⟩
  rw[sH] at h;by_cases h0:a.x.size=0
  ·rw[if_pos h0] at h;by_cases e:a.w=v
   ·rw[if_pos e] at h;exact key h hl (by unfold cQ;rw[if_pos h0,e,if_pos hv0])
   rw[if_neg e] at h;cases h
  rw[if_neg h0] at h;cases k:lkB a.x l with
  |none=>
   rw[k] at h;simp only at h;obtain⟨m,e⟩:=iV h;exact key h (ya hl hv0) (by unfold cQ;rw[if_neg h0,e,Cn k];simp only;rw[if_pos hv0])
  |some w=>
   rw[k] at h;simp only at h;by_cases e:w=v
   ·rw[if_pos e] at h;obtain⟨m,e2⟩:=iV h;exact key h hl (by unfold cQ;rw[if_neg h0,e2,aw k];simp only;rw[e,if_pos hv0])
   rw[if_neg e] at h;cases h
theorem Bs{l:List Tr}{e:Ex}(h:(fF l e).size≠0):e.op=0∧fF l e=e.t.x:=by
 unfold fF at h⊢;split at h
 ·exact absurd rfl h
 rename_i hc;rw[if_neg hc];exact⟨by simpa using(not_or.1 hc).1,rfl⟩
theorem A3{e:Ex}{l:List Tr}{w:Vl}(h0:e.op=0)(hx:e.t.x.size≠0)(hk:lkB e.t.x l=some w)(hw:bO w=true)(n:Nat):bV l n e=(w,0):=by
 obtain⟨op,t,o,ks⟩:=e;have h0:op=0:=h0;have ht:cQ t l=(w,0):=by
  unfold cQ;rw[if_neg (show¬t.x.size=0 from hx),show lkB t.x l=some w from hk];simp only;rw[if_pos hw]
 cases n with
 |zero=>exact ht
 |succ n=>unfold bV;rw[if_pos h0];exact ht
theorem z8{l:List Tr}{x:ByteArray}{e:Ex}{l2:List Tr}(h:(ki l x e).1=some l2):(bV l 20 e).2=0∧l2=l++[⟨x,(bV l 20 e).1⟩]:=by
 unfold ki at h;split at h
 ·cases h
 rename_i h1;injection h with h;exact⟨by simpa using h1,h.symm⟩
theorem oy{l l2:List Tr}{x:Li}(hx:bW x=true)(h3:x.k=3)(hl:rtB l)(h:(nS l x).1=some l2):rtB l2∧(∃m,l2=l++m)∧lD l2 x=(true,0):=by
 obtain⟨_,_,px,py⟩:=sB hx h3;have two:∀{e f:Ex},(fF l e).size≠0→fG 20 f=true→(ki l (fF l e) f).1=some l2→rtB l2∧(∃m,l2=l++m)∧∃w,bV l2 20 e=(w,0)∧bV l2 20 f=(w,0):=by
  intro e f hu hf hs;obtain⟨q1,q2⟩:=z8 hs;obtain⟨o1,o2⟩:=Bs hu;have hn:=oV hu;rw[o2] at q2 hn hu;have hw:=vC hf q1;refine⟨by rw[q2];exact ya hl hw,⟨_,q2⟩,_,A3 o1 hu ?_ hw 20,?_⟩
  ·rw[q2,yG,hn];simp
  rw[q2,lZ _ _ _ q1];exact Prod.ext rfl q1
 unfold nS at h;split at h
 ·rename_i hc;obtain⟨a,b,w,e1,e2⟩:=two hc.2 py h;exact⟨a,b,by unfold lD jm;rw[e1,e2,hc.1];simp⟩
 split at h
 ·rename_i hc;obtain⟨a,b,w,e1,e2⟩:=two hc.2 px h;exact⟨a,b,by unfold lD jm;rw[e1,e2,hc.1];simp⟩
 split at h
 ·cases h
 rename_i hc;injection h with h;subst h;simp only[not_or,Classical.not_not,Bool.not_eq_false] at hc;exact⟨hl,⟨[],(Kk _).symm⟩,Prod.ext hc.2 hc.1⟩
def okB(G:ByteArray→List (List Vl))(x:Li)(e:List Tr):Prop:=if x.k=3 then lD e x=(true,0) else (cY x.a e).2=0∧rB (G x.a.r) (cY x.a e).1=decide (x.k=1)
theorem BN{G:ByteArray→List (List Vl)}{x:Li}{e:List Tr}(h:okB G x e)(m:List Tr):okB G x (e++m):=by
 unfold okB at h⊢;split
 ·rename_i h3;rw[if_pos h3] at h;exact tu h m
 rename_i h3;rw[if_neg h3] at h;rw[uz h.1];exact h
theorem iz(a:Am)(L:List (List Vl)):∀(es acc:List (List Tr)),(pJ a L acc es).2=0→∀e∈(pJ a L acc es).1,e∈acc∨e∈es∧(cY a e).2=0∧rB L (cY a e).1=false
 | [],acc,_,e,he=> .inl he
 |x::r,acc,h,e,he=>by
  rw[sG] at h he;by_cases hx:(cY a x).2=0
  ·rw[if_neg (by simpa using hx)] at h he;rcases iz a L r _ h e he with q|q
   ·split at q
    ·exact .inl q
    rename_i hn;rcases Kg.1 q with q|q
    ·exact .inl q
    rw[Ka.1 q];exact .inr ⟨Kf,hx,by simpa using hn⟩
   exact .inr ⟨Kb _ q.1,q.2⟩
  rw[if_pos hx] at he;cases he
theorem vT(x:Li):∀(es acc:List (List Tr)),(mF x acc es).2=0→∀e∈(mF x acc es).1,e∈acc∨∃e0∈es,(nS e0 x).1=some e
 | [],acc,_,e,he=> .inl he
 |y::r,acc,h,e,he=>by
  rw[rY] at h he;obtain⟨⟨o,n⟩,ho⟩:∃p,nS y x=p:=⟨_,rfl⟩;rw[ho] at h he;cases o with
  |some l=>
   rcases vT x r _ h e he with q|⟨e0,q,q2⟩
   ·rcases Kg.1 q with q|q
    ·exact .inl q
    rw[Ka.1 q];exact .inr ⟨y,Kf,by rw[ho]⟩
   exact .inr ⟨e0,Kb _ q,q2⟩
  |none=>
   simp only at h he;by_cases hn:n=0
   ·rw[if_neg (by simpa using hn)] at h he;rcases vT x r _ h e he with q|⟨e0,q,q2⟩
    ·exact .inl q
    exact .inr ⟨e0,Kb _ q,q2⟩
   rw[if_pos hn] at he;cases he
theorem Bw{G:ByteArray→List (List Vl)}(hG:∀x,∀t∈G x,∀v∈t,bO v=true){x:Li}(hx:bW x=true){es:List (List Tr)}(he:∀e∈es,rtB e)(h:(nF G x es).2=0):∀e∈(nF G x es).1,rtB e∧okB G x e∧∃e0∈es,∃m,e=e0++m:=by
 intro e hm;unfold nF at h hm;unfold okB;by_cases h1:x.k=1
 ·rw[if_pos h1] at hm;unfold xS at hm;obtain⟨e0,q0,hm⟩:=List.mem_flatMap.1 hm;obtain⟨t,ht,hm⟩:=List.mem_filterMap.1 hm;unfold pK at hm;split at hm
  ·cases hm
  rename_i hl;have hl:x.a.l.length=t.length:=by simpa using hl
  have h6:x.a.l.length≤6:=(nY hx).1;obtain⟨p,q⟩:=af hl hm (he e0 q0) (hG _ t ht);have hA:cY x.a e=(t,0):=by unfold cY;rw[if_neg or,q];rfl
  rw[if_neg or,hA];exact⟨p,⟨rfl,by rw[decide_eq_true h1];exact List.any_eq_true.2 ⟨t,ht,decide_eq_true rfl⟩⟩,e0,q0,iV hm⟩
 rw[if_neg h1] at h hm;by_cases h2:x.k=2
 ·rw[if_pos h2] at h hm;rcases iz _ _ _ _ h e hm with q|⟨q,q1,q2⟩
  ·cases q
  rw[if_neg or];exact⟨he e q,⟨q1,by rw[q2,decide_eq_false h1]⟩,e,q,[],(Kk _).symm⟩
 rw[if_neg h2] at h hm;have h3:x.k=3:=by have:=BG hx;omega
 rcases vT _ _ _ h e hm with q|⟨e0,q,q2⟩
 ·cases q
 obtain⟨a,b,c⟩:=oy hx h3 (he e0 q) q2;rw[if_pos h3];exact⟨a,c,e0,q,b⟩
theorem rh{G:ByteArray→List (List Vl)}(hG:∀x,∀t∈G x,∀v∈t,bO v=true){b:List Li}:∀(ks:List Nat) (es:List (List Tr)),(∀k∈ks,bW (b.getD k default)=true)→(∀e∈es,rtB e)→(lY G b ks es).2=0→
 ∀e∈(lY G b ks es).1,rtB e∧(∀k∈ks,okB G (b.getD k default) e)∧∃e0∈es,∃m,e=e0++m
 | [],es,_,he,_,e,hm=>⟨he e hm,fun k hk=>(by cases hk),e,hm,[],(Kk _).symm⟩
 |k::ks,es,hb,he,h,e,hm=>by
  unfold lY at h hm;split at h
  ·rename_i h1;exact absurd h h1
  rename_i h1;rw[if_neg h1] at hm;split at h
  ·cases h
  rename_i h2;rw[if_neg h2] at hm;have S:=Bw hG (hb k Kf) he (by simpa using h1);obtain⟨p,q,e0,r1,m,r2⟩:=rh hG ks _ (fun j hj=>hb j (Kb _ hj)) (fun e he=>(S e he).1) h e hm;obtain⟨s1,s2,e1,t1,m1,t2⟩:=S e0 r1;refine⟨p,fun j hj=>?_,e1,t1,m1++m,by rw[r2,t2,List.append_assoc]⟩;rcases Kd.1 hj with rfl|hj
  ·rw[r2];exact BN s2 m
  exact q j hj
theorem jp{G:ByteArray→List (List Vl)}{b:List Li}:∀(ks:List Nat) (es:List (List Tr)),(lY G b ks es).2≠0→(lY G b ks es).1=[]
 | [],es,h=>absurd rfl h
 |k::ks,es,h=>by
  unfold lY at h⊢;split
  ·rfl
  rename_i h1;rw[if_neg h1] at h;split
  ·rfl
  rename_i h2;rw[if_neg h2] at h;exact jp ks _ h
theorem An{r:Ru}(hr:dW r=true)(hs:dN r (fU r) false=[]):∀k,k<r.b.length→k∈iS r:=by
 obtain⟨_,_,b3⟩:=dG hr;have h1:∀x∈r.vars,x∈fU r:=fun x hx=>by
  cases hb:hZ x (fU r) with
  |true=>exact pS.1 hb
  |false=>
   have:x∈dN r (fU r) false:=List.mem_filter.2 ⟨hx,by rw[hb];rfl⟩;rw[hs] at this;cases this
 have key:∀(n:Nat) (s:List ByteArray) (left:List Nat),left.length=n→(∀k∈left,k<r.b.length)→(∀k,k<r.b.length→k∈left∨∀x∈(r.b.getD k default).vars,x∈s)→∀k∈left,k∈(iD r n s left).map Prod.fst:=by
  intro n;induction n with
  |zero=>
   intro s left hl _ _ k hk;have:left=[]:=List.length_eq_zero_iff.1 hl;subst this;cases hk
  |succ n ih=>
   intro s left hl hlt inv k hk;unfold iD;split
   ·rename_i h;exfalso;have hst:=FD b3 h inv;have hkl:=hlt k hk;have hD:r.b.getD k default=r.b[k]:=by rw[Kc,Ke hkl];rfl
    have aAZ:kL s (r.b.getD k default).vars=true:=kI.2 fun x hx=>hst x (h1 x (p8.2 (.inr ⟨r.b.getD k default,hD▸Kp hkl,hx⟩)));unfold jY at h;split at h
    ·omega
    rename_i h2;have e1:=kU h k hk;have e2:=kU (Int.not_le.1 h2) k hk;simp only[decide_eq_false_iff_not] at e1;unfold iL at e2;rw[aAZ,decide_eq_true e1] at e2;simp at e2
   rename_i h;rcases zU r s left with e|⟨i,e,hi⟩
   ·omega
   rw[e];simp only[Int.toNat_natCast,List.map_cons,Kd];have hd:left.getD i 0=left[i]:=by rw[Kc,Ke hi];rfl
   rw[hd];have e2:left=left.take i++left[i]::left.drop (i+1):=by rw[List.getElem_cons_drop,List.take_append_drop]
   have sp:∀j,j∈left→j=left[i]∨j∈left.eraseIdx i:=fun j hj=>by
    have h3:j∈left.take i++left[i]::left.drop (i+1):=e2▸hj;rw[List.eraseIdx_eq_take_drop_succ];simp only[Kg,Kd] at h3⊢;rcases h3 with h3|h3|h3
    ·exact .inr (.inl h3)
    ·exact .inl h3
    exact .inr (.inr h3)
   rcases sp k hk with q|q
   ·exact .inl q
   refine .inr (ih _ _ (by rw[List.length_eraseIdx_of_lt hi];omega) (fun j hj=>hlt j (List.mem_of_mem_eraseIdx hj)) (fun j hj=>?_) k q);rcases inv j hj with h2|h2
   ·rcases sp j h2 with q|q
    ·subst q;exact .inr fun y hy=>Kg.2 (.inr hy)
    exact .inl q
   exact .inr fun y hy=>Kg.2 (.inl (h2 y hy))
 exact fun k hk=>key _ [] (List.range r.b.length) Zm (fun k h=>Km.1 h) (fun k h=> .inl (Km.2 h)) k (Km.2 hk)
theorem BF{r:Ru}(hr:dW r=true):∀k,bW (r.b.getD k default)=true∨r.b.length≤k:=fun k=>by
 rcases Ko k r.b.length with h|h
 ·rw[Kc,Ke h];exact .inl ((dG hr).2.2 _ (Kp h))
 exact .inr h
theorem B4{r:Ru}(h:ag r=0):dW r=true∧dN r (fU r) false=[]:=by
 unfold ag at h;split at h
 ·cases h
 rename_i h1;split at h
 ·cases h
 rename_i h2;exact⟨by simpa using h1,by simpa using h2⟩
theorem Et{G:ByteArray→List (List Vl)}{r:Ru}(h:(oJ G r).2≠0):(oJ G r).1=[]:=by
 unfold oJ at h⊢;split
 ·rfl
 rename_i h1;rw[if_neg h1] at h;exact jp _ _ h
theorem Fp{G:ByteArray→List (List Vl)}(hG:∀x,∀t∈G x,∀v∈t,bO v=true){r:Ru}(h:(oJ G r).2=0):∀e∈(oJ G r).1,rtB e∧∀x∈r.b,okB G x e:=by
 unfold oJ at h⊢;by_cases hm:ag r=0
 ·rw[if_neg (by simpa using hm)] at h⊢;obtain⟨hr,hs⟩:=B4 hm;intro e he;obtain⟨p,q,_⟩:=rh hG (iS r) [[]] (fun k hk=>(BF hr k).resolve_right (by have:=pr r k hk;omega)) (fun e he=>by rw[Ka.1 he];intro t ht;cases ht) h e he;refine⟨p,fun x hx=>?_⟩;obtain⟨k,hk,rfl⟩:=List.mem_iff_getElem.1 hx;have:=q k (An hr hs k hk);rwa [Kc,Ke hk] at this
 rw[if_pos hm] at h;exact absurd h hm
theorem zq{t:List Vl}(h:oW t=true):∀v∈t,bO v=true:=by
 unfold oW at h;simp only[Bool.and_eq_true] at h;exact List.all_eq_true.1 h.2
theorem n8{S:List Sr}(hS:∀s∈S,fB s.ar s.zs):∀x,∀t∈dJ S x,∀v∈t,bO v=true:=by
 intro x t ht;have key:∀{l:List Sr} {s:Sr},lkS x l=some s→s∈l:=by
  intro l s h;induction l with
  |nil=>cases h
  |cons a l ih=>
   unfold lkS at h;split at h
   ·injection h with h;rw[←h];exact Kf
   exact Kb _ (ih h)
 unfold dJ at ht;cases k:lkS x S with
 |none=>rw[k] at ht;cases ht
 |some s=>
  rw[k] at ht;obtain⟨z,hz,rfl⟩:=List.mem_map.1 ht;exact zq ((hS s (key k)).row z hz).1
end Go.Proofs.YtlhedpgobaellaaGreatDoor
