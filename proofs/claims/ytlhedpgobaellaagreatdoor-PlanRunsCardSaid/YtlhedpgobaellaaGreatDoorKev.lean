/-
Texts of this proof,one behind the other. No conditions.
-/
import Derived.Test.YtlhedpgobaellaaGreatDoorKd
open Go.Proofs.YtlhedpgobaellaaGreatDoor.V renaming undef→Ka
open Go.Proofs.YtlhedpgobaellaaGreatDoor.LOp renaming run→Kb,sem→Kc
open Option renaming map_eq_some_iff→Kd,bind_eq_some_iff→Kf
open Bool renaming and_eq_true→Ke,false_eq_true→Ks,not_eq_false'→Kt,not_eq_true'→Kv,or_eq_true→Ky
open Nat renaming blt→Kg,le_refl→Kj,ble→Kp,blt_eq→Kq,zero_le→Kx,lt_or_ge→KA,ble_eq→KB
open List renaming all_eq_true→Kh,getD_eq_getElem?_getD→Ki,getElem?_eq_getElem→Kk,getElem?_eq_none→Km,mem_cons_of_mem→Ko,mem_cons_self→Ku,getElem?_set→Kw,mem_range→Kz,range→KC
set_option linter.all false
set_option maxHeartbeats 8000000
namespace Go.Proofs.YtlhedpgobaellaaGreatDoor
open Go.RowKit
abbrev Mem:=List (Nat×Blk)
def lk:Mem→Hp
 | [],_=>none
 |(m,b)::r,n=>bif m==n then some b else lk r n
def upM(n:Nat)(b:Blk):Mem→Mem
 | []=>[(n,b)]
 |(m,c)::r=>bif m==n then (n,b)::r else (m,c)::upM n b r
def dlM(n:Nat):Mem→Mem
 | []=>[]
 |(m,c)::r=>bif m==n then dlM n r else (m,c)::dlM n r
theorem kY{n:Nat}{b:Blk}{l:Mem}:lk ((n,b)::l)=(lk l).set n b:=by
 funext m;simp only[lk,Hp.set];by_cases h:n=m
 ·subst h;simp
 rw[if_neg (fun e=>h e.symm),beq_false_of_ne h];rfl
theorem Bj{n:Nat}{b:Blk}:∀{l:Mem},lk (upM n b l)=(lk l).set n b
 | []=>kY
 |(m,c)::r=>by
  funext k;simp only[upM];by_cases h:m=n
  ·subst h;simp only[beq_self_eq_true,cond_true,kY];simp only[Hp.set];split<;>rfl
  rw[beq_false_of_ne h];simp only[cond_false,kY,Bj (l:=r)];simp only[Hp.set];split
  ·rename_i h1;subst h1;rw[if_neg h]
  rfl
theorem EU{n:Nat}:∀{l:Mem},lk (dlM n l)=(lk l).del n
 | []=>by funext k;simp only[dlM,lk,Hp.del];split<;>rfl
 |(m,c)::r=>by
  funext k;simp only[dlM];by_cases h:m=n
  ·subst h;simp only[beq_self_eq_true,cond_true,EU (l:=r),kY];simp only[Hp.del,Hp.set];split
   ·rfl
   rfl
  rw[beq_false_of_ne h];simp only[cond_false,kY,EU (l:=r)];simp only[Hp.set,Hp.del];split
  ·rename_i h1;subst h1;rw[if_neg h]
  rfl
def mf(k t:Sh)(o:Nat):Bool:=
 match k,t with
 | .leaf, .leaf=>o==0
 | .leaf, .agg _=>false
 | .agg n, .leaf=>Kg o n
 | .agg n, .agg m=>Kp (o+m) n
theorem d9{k t:Sh}{o:Nat}(h:mf k t o=true):cA k t o:=by
 unfold mf at h;unfold cA;split at h<;>simp_all [Kq,KB]
def gd(b:Bool)(v:V):Option V:=bif b then some v else none
def G4(op:BinOp)(k:IntKind)(a b:Int):Option V:=
 match op with
 | .add=>some (.int k (k.wrap (a+b)))
 | .sub=>some (.int k (k.wrap (a-b)))
 | .mul=>some (.int k (k.wrap (a*b)))
 | .eql=>some (.bool (a==b))
 | .neq=>some (.bool (a != b))
 | .lss=>some (.bool (decide (a<b)))
 | .leq=>some (.bool (decide (a≤b)))
 | .gtr=>some (.bool (decide (b<a)))
 | .geq=>some (.bool (decide (b≤a)))
 |_=>none
def G0(op:BinOp)(s t:ByteArray):Option V:=
 match op with
 | .eql=>some (.bool (s.toList==t.toList))
 | .neq=>some (.bool (!(s.toList==t.toList)))
 |_=>none
def aW.val(sl:List V)(h:Hp):aW→Option V
 | .move x=>some (x.ev sl)
 | .pick c a b=>match c.ev sl with
  | .bool t=>some (V.pick t (a.ev sl) (b.ev sl))
  |_=>none
 | .load t x=>match x.ev sl with
  | .ptr n k i o=>match h n with
   |some (.arr k' es)=>gd (k'==k&&Kg i es.length&&mf k t o) (bB t o (es.getD i Ka))
   |_=>none
  | .ept k es i o=>gd (Kg i es.length&&mf k t o) (bB t o (es.getD i Ka))
  |_=>none
 | .nilCheck x=>match x.ev sl with
  | .ptr n k i o=>some (.ptr n k i o)
  | .ept k es i o=>some (.ept k es i o)
  |_=>none
 | .bin op x y=>match x.ev sl,y.ev sl with
  | .int k a, .int k' b=>bif k==k' then G4 op k a b else none
  | .str s, .str t=>G0 op s t
  |_,_=>none
 | .eq ng ty x y=>(veq ty (x.ev sl) (y.ev sl)).map fun r=> .bool (if ng then !r else r)
 | .not x=>match x.ev sl with
  | .bool b=>some (.bool (!b))
  |_=>none
 | .neg x=>match x.ev sl with
  | .int k n=>some (.int k (k.wrap (0-n)))
  |_=>none
 | .conv k x=>match x.ev sl with
  | .int _ n=>some (.int k (k.wrap n))
  |_=>none
 | .mkif t x=>some (.iface t (x.ev sl))
 | .mkfn f first cap=>some (.fn f (first.map (aK.ev sl)) (cap.map (aK.ev sl)))
 | .fldA off x=>match x.ev sl with
  | .ptr n k i o=>some (.ptr n k i (o+off))
  | .ept k es i o=>some (.ept k es i (o+off))
  |_=>none
 | .fld t off x=>match x.ev sl with
  | .agg cs=>gd (mf (.agg cs.length) t off&&cs.all V.aAE) (bB t off (.agg cs))
  |_=>none
 | .idxA k x i=>match x.ev sl,i.ev sl with
  | .sl k' _ es, .int _ j=>gd (k'==k&&decide (0≤j)&&Kg j.toNat es.length) (.ept k es j.toNat 0)
  | .rs n k' off ln, .int _ j=>gd (k'==k&&decide (0≤j)&&Kg j.toNat ln) (.ptr n k (off+j.toNat) 0)
  |_,_=>none
 | .idxP ln k x i=>match x.ev sl,i.ev sl with
  | .ptr n k' i' o, .int _ j=>gd (decide (0≤j)&&Kg j.toNat ln) (.ptr n k' i' (o+j.toNat*k.size))
  | .ept k' es i' o, .int _ j=>gd (decide (0≤j)&&Kg j.toNat ln) (.ept k' es i' (o+j.toNat*k.size))
  |_,_=>none
 | .len x=>match x.ev sl with
  | .sl _ _ es=>some (.int .i64 es.length)
  | .rs _ _ _ ln=>some (.int .i64 ln)
  |_=>none
 | .slen x=>match x.ev sl with
  | .str s=>some (.int .i64 s.size)
  |_=>none
 | .ext x i=>match x.ev sl with
  | .tup vs=>gd (Kg i vs.length) (vs.getD i Ka)
  |_=>none
 | .build z parts=>gd (parts.all fun p=>(p.2.2.ev sl).fits p.2.1&&Kp (p.1+p.2.1.size) z.length) (.agg (ie z (parts.map fun p=>(p.1,(p.2.2.ev sl).cells))))
 | .slc k x lo hi mx=>match x.ev sl with
  | .sl k' own es=>match cW sl 0 lo,cW sl es.length hi,cW sl es.length mx with
   |some l,some h',some m=>gd (k'==k&&decide (0≤l)&&decide (l≤h')&&decide (h'≤m)&&decide (m≤es.length)&&(!hi.isNone||mx.isNone)) (.sl k (aDQ own es (eC sl hi) (eC sl mx)) ((es.take h'.toNat).drop l.toNat))
   |_,_,_=>none
  |_=>none
 | .slcs x lo hi=>match x.ev sl with
  | .str s=>match cW sl 0 lo,cW sl s.size hi with
   |some l,some h'=>gd (decide (0≤l)&&decide (l≤h')&&decide (h'≤s.size)) (.str (s.extract l.toNat h'.toNat))
   |_,_=>none
  |_=>none
 | .mnx mx x y=>match x.ev sl,y.ev sl with
  | .int k a, .int k' b=>gd (k==k') (.int k (am mx a b))
  |_,_=>none
 | .asrt t z x=>match x.ev sl with
  | .iface t' v=>some (.tup [if t'=t then v else z, .bool (decide (t'=t))])
  | .nilIface=>some (.tup [z, .bool false])
  |_=>none
 | .asrq t x=>match x.ev sl with
  | .iface t' v=>gd (t'==t) v
  |_=>none
 | .sidx n x i=>match n,x.ev sl,i.ev sl with
  |none, .str s, .int _ j=>gd (decide (0≤j)&&decide (j<s.size)) (.int .u8 (s.data.toList.getD j.toNat 0).toNat)
  |some n, .agg cs, .int _ j=>gd (decide (0≤j)&&Kg j.toNat n&&Kg j.toNat cs.length) (cs.getD j.toNat Ka)
  |_,_,_=>none
 | .pslc n k x hi=>match x.ev sl with
  | .ept (.agg m) [e] 0 0=>match cW sl n hi with
   |some h'=>gd (m==n*k.size&&decide (0≤h')&&decide (h'≤n)) (.sl k .free ((qL k n e).take h'.toNat))
   |none=>none
  |_=>none
 | .mget kS ks z ok x i=>bif (i.ev sl).fits kS then (match x.ev sl with
  | .aAG=>some (jW ok z [] none)
  | .map n=>match h n with
   |some (.mp es _)=>(bT (.plain kS ks) (i.ev sl) es).map (jW ok z es)
   |_=>none
  |_=>none) else none
 | .mlen x=>match x.ev sl with
  | .aAG=>some (.int .i64 0)
  | .map n=>match h n with
   |some (.mp es _)=>some (.int .i64 es.length)
   |_=>none
  |_=>none
 |_=>none
theorem be{a b:Nat}:(Kg a b=true)=(a<b):=by simp[Kq]
theorem bf{a b:Nat}:(Kp a b=true)=(a≤b):=by simp[KB]
theorem aW.aCw{sl:List V}{h:Hp}{R:V→Prop}{l:aW}{v:V}(e:l.val sl h=some v)(hR:R v):l.sem sl h R:=by
 cases l<;>simp only[aW.val,aW.sem,gd,G4,G0,Bool.cond_eq_ite] at e⊢;case eq ng ty x y=>
  cases hv:veq ty (x.ev sl) (y.ev sl)<;>simp_all
 case bin op x y=>
  generalize x.ev sl=a at e⊢;generalize y.ev sl=b at e⊢;cases a<;>cases b<;>simp_all
  ·cases op<;>simp_all [Da]
  cases op<;>simp_all [B2]
 case mget kS ks z ok x i=>
  split at e
  ·rename_i h1;refine⟨h1,?_⟩;generalize x.ev sl=a at e⊢;cases a<;>simp_all
   rename_i n;cases hn:h n with
   |none=>simp[hn] at e
   |some bl=>
    cases bl<;>simp[hn] at e⊢;rename_i es c;cases hm:bT (.plain kS ks) (i.ev sl) es<;>simp_all
  cases e
 all_goals
  repeat' (split at e)
  all_goals cases e
  all_goals try simp only[Ke,Ky,Kv,beq_iff_eq,decide_eq_true_eq,be,bf,Kh] at*
  all_goals first|assumption|(simp_all [d9];done)|(simp_all [d9];first|omega|assumption|(intro h;subst h;simp_all))
def HG(l:Mem)(a:Nat)(own:Own)(ys:List V):Mem:=
 match own with
 | .nil=>bif ys.isEmpty then l else (a, .tip)::l
 | .full=>bif ys.isEmpty then l else (a, .tip)::l
 | .tok n=>(a, .tip)::dlM n l
 | .free=>l
theorem Gu{l:Mem}{a:Nat}{own:Own}{ys:List V}:lk (HG l a own ys)=gC (lk l) a own ys:=by
 cases own<;>simp only[HG,gC]<;>(try cases ys.isEmpty)<;>simp[kY,EU]
def Ha(h:Hp):Own→Bool
 | .free=>false
 | .tok n=>match h n with
  |some .tip=>true
  |_=>false
 |_=>true
theorem FY{h:Hp}{o:Own}(e:Ha h o=true):sG h o:=by
 cases o with
 |tok n=>simp only[Ha] at e;split at e<;>simp_all [sG]
 |free=>cases e
 |_=>trivial
abbrev ER:=Option (V×Mem×Nat)
def gE(b:Bool)(v:V)(l:Mem)(a:Nat):ER:=bif b then some (v,l,a) else none
theorem wX{b:Bool}{v v':V}{l l':Mem}{a a':Nat}(h:gE b v l a=some (v',l',a')):b=true∧v=v'∧l=l'∧a=a':=by
 cases b<;>simp[gE] at h;exact⟨rfl,h⟩
def LOp.stp(sl:List V)(l:Mem)(a:Nat):LOp→ER
 | .val x=>(x.val sl (lk l)).map fun v=>(v,l,a)
 | .box k x=>gE ((x.ev sl).fits k) (.ptr a k 0 0) ((a, .arr k [x.ev sl])::l) (a+1)
 | .bslice k es=>gE (es.all fun e=>(e.ev sl).fits k) (.sl k (.tok a) (es.map (aK.ev sl))) ((a, .tip)::l) (a+1)
 | .append k bytes x y=>match dQ (lk l) (y.ev sl) with
  |some (ky,ys)=>match x.ev sl with
   | .sl kx own xs=>gE (ky==k&&kx==k&&Kp ((xs.length+ys.length)*bytes) 140737488355328&&Ha (lk l) own) (.sl k (fB a own ys) (xs++ys)) (HG l a own ys) (a+1)
   |_=>none
  |none=>none
 | .store t x v=>match x.ev sl with
  | .ptr n k i o=>match lk l n with
   |some (.arr k' es)=>gE (k'==k&&Kg i es.length&&mf k t o&&(v.ev sl).fits t) Ka (upM n (.arr k (es.set i (bZ t o (es.getD i Ka) (v.ev sl)))) l) (a+1)
   |_=>none
  |_=>none
 | .mkz k bytes x z=>match x.ev sl with
  | .int _ m=>gE (decide (0≤m)&&Kp (m.toNat*bytes) 140737488355328) (.rs a k 0 (mkN m.toNat z)) ((a, .arr k (mkL m.toNat z))::l) (a+1)
  |_=>none
 | .mp .mk=>some (.map a,(a, .mp [] 0)::l,a+1)
 | .mp (.put kS ks x k v)=>match x.ev sl with
  | .map n=>match lk l n with
   |some (.mp es c)=>bif (k.ev sl).fits kS then (match bT (.plain kS ks) (k.ev sl) es with
    |some (some j)=>some (Ka,upM n (.mp (es.set j ⟨k.ev sl,v.ev sl,(es.getD j default).b⟩) c) l,a+1)
    |some none=>some (Ka,upM n (.mp (es++[⟨k.ev sl,v.ev sl,c⟩]) (c+1)) l,a+1)
    |none=>none) else none
   |_=>none
  |_=>none
 |_=>none
theorem LOp.aE8{P:Program}{sl:List V}{l l':Mem}{a a':Nat}{v:V}{R:V→Hp→Nat→Prop}{o:LOp}(e:o.stp sl l a=some (v,l',a'))(hR:R v (lk l') a'):o.run P sl (lk l) a R:=by
 cases o with
 |val x=>
  simp only[LOp.stp] at e;obtain⟨w,h1,h2⟩:=Kd.1 e;cases h2;exact aW.aCw (R:=fun v=>R v (lk l) a) h1 hR
 |box k x=>
  obtain⟨h1,rfl,rfl,rfl⟩:=wX e;exact⟨h1,by rw[←kY];exact hR⟩
 |bslice k es=>
  obtain⟨h1,rfl,rfl,rfl⟩:=wX e;exact⟨fun x hx=>Kh.1 h1 x hx, .inl (by rw[←kY];exact hR)⟩
 |append k bytes x y=>
  simp only[LOp.stp,Kb,Kc] at e⊢;cases hs:dQ (lk l) (y.ev sl) with
  |none=>rw[hs] at e;cases e
  |some p=>
   obtain⟨ky,ys⟩:=p;rw[hs] at e;simp only at e⊢;generalize x.ev sl=xv at e⊢;cases xv<;>first|(cases e;done)|skip
   simp only at e⊢;obtain⟨h1,rfl,rfl,rfl⟩:=wX e;simp only[Ke,beq_iff_eq,bf] at h1;obtain⟨⟨⟨h1,h2⟩,h3⟩,h4⟩:=h1;exact⟨h1,h2,h3, .inl ⟨FY h4,by rw[←Gu];exact hR⟩⟩
 |store t x w=>
  simp only[LOp.stp,Kb,Kc] at e⊢;generalize x.ev sl=xv at e⊢;cases xv<;>first|(cases e;done)|skip
  rename_i n k i o;simp only at e⊢;cases hn:lk l n with
  |none=>rw[hn] at e;cases e
  |some b=>
   rw[hn] at e;cases b<;>first|(cases e;done)|skip
   simp only at e⊢;obtain⟨h1,rfl,rfl,rfl⟩:=wX e;simp only[Ke,beq_iff_eq,be] at h1;obtain⟨⟨⟨h1,h2⟩,h3⟩,h4⟩:=h1;exact⟨h1,h2,d9 h3,h4,by rw[←Bj];exact hR⟩
 |mkz k bytes x z=>
  simp only[LOp.stp,Kb,Kc] at e⊢;generalize x.ev sl=xv at e⊢;cases xv<;>first|(cases e;done)|skip
  simp only at e⊢;obtain⟨h1,rfl,rfl,rfl⟩:=wX e;simp only[Ke,decide_eq_true_eq,bf] at h1;exact⟨h1.1,h1.2, .inl (by rw[←kY];exact hR)⟩
 |mp m=>
  cases m<;>first|(cases e;done)|skip
  ·simp only[LOp.stp,Option.some.injEq,Prod.mk.injEq] at e;obtain⟨rfl,rfl,rfl⟩:=e;exact show R _ _ _ by rw[←kY];exact hR
  rename_i kS ks x k w;simp only[LOp.stp,Kb,Kc,MOp.sem] at e⊢;generalize x.ev sl=xv at e⊢;cases xv<;>first|(cases e;done)|skip
  rename_i n;simp only at e⊢;cases hn:lk l n with
  |none=>rw[hn] at e;cases e
  |some b=>
   rw[hn] at e;cases b<;>first|(cases e;done)|skip
   rename_i es c;simp only at e⊢;cases hf:(k.ev sl).fits kS with
   |false=>rw[hf] at e;cases e
   |true=>
    rw[hf] at e;refine⟨rfl,?_⟩;simp only[cond_true] at e;cases hm:bT (.plain kS ks) (k.ev sl) es with
    |none=>rw[hm] at e;cases e
    |some r=>
     rw[hm] at e;cases r with
     |none=>
      simp only[Option.some.injEq,Prod.mk.injEq] at e;obtain⟨rfl,rfl,rfl⟩:=e;exact show R _ _ _ by rw[←Bj];exact hR
     |some j=>
      simp only[Option.some.injEq,Prod.mk.injEq] at e;obtain⟨rfl,rfl,rfl⟩:=e;exact show R _ _ _ by rw[←Bj];exact hR
 |_=>cases e
structure ES where
 sl:List V
 l:Mem
 a:Nat
def ES.st(s:ES):St:=⟨s.sl,lk s.l,s.a⟩
abbrev EC:=Nat→List V→Mem→Nat→ER
def evO(call:EC)(sl:List V)(l:Mem)(a:Nat):LOp→ER
 | .call f args=>call f (args.map (aK.ev sl)) l a
 | .callv x args=>match x.ev sl with
  | .fn (.func f) first cap=>call f (first++args.map (aK.ev sl)++cap) l a
  |_=>none
 |o=>o.stp sl l a
def evR(call:EC)(sl:List V)(l:Mem)(a:Nat)(o:aA):ER:=
 match o.g with
 |none=>evO call sl l a o.op
 |some (t,want)=>match sl.getD t Ka with
  | .bool b=>bif b==want then evO call sl l a o.op else some (Ka,l,a)
  | .tup _=>some (Ka,l,a)
  |_=>none
def ES.put(s:ES)(dst:Option Nat)(r:V×Mem×Nat):ES:=⟨bL s.sl dst r.1,r.2.1,r.2.2⟩
def evL(call:EC):List aA→ES→Option ES
 | [],s=>some s
 |o::r,s=>(evR call s.sl s.l s.a o).bind fun x=>evL call r (s.put o.dst x)
def rq(P:Program)(call:EC):Prop:=∀f args l a v l' a',call f args l a=some (v,l',a')→aR P f args (lk l) a fun v' h' nx'=>v'=v∧h'=lk l'∧nx'=a'
section
variable{P:Program}{call:EC}(hc:rq P call)
include hc
theorem GC{sl:List V}{l l':Mem}{a a':Nat}{v:V}{R:V→Hp→Nat→Prop}{o:LOp}(e:evO call sl l a o=some (v,l',a'))(hR:R v (lk l') a'):o.run P sl (lk l) a R:=by
 cases o with
 |call f args=>exact(hc _ _ _ _ _ _ _ e).mono (fun _ _ _ _ ⟨h1,h2,h3⟩=>by rw[h1,h2,h3];exact hR)
 |callv x args=>
  simp only[evO,Kb] at e⊢;generalize x.ev sl=xv at e⊢;cases xv<;>first|(cases e;done)|skip
  rename_i f first cap
  cases f<;>first|(cases e;done)|skip
  exact(hc _ _ _ _ _ _ _ e).mono (fun _ _ _ _ ⟨h1,h2,h3⟩=>by rw[h1,h2,h3];exact hR)
 |_=>exact LOp.aE8 e hR
theorem LOp.aCy{sl sl':List V}{h:Hp}{a:Nat}{R:V→Hp→Nat→Prop}{o:LOp}(ha:eD sl sl' o.aAD):o.run P sl h a R↔o.run P sl' h a R:=by
 cases o with
 |val x=>exact aW.aBm (R:=fun v=>R v h a) ha
 |call f args=>simp only[Kb,gT (xs:=args) ha]
 |callv x args=>simp only[Kb,aK.aAA (x:=x) ha.left,gT (xs:=args) ha.right]
 |callw f args fl=>exact Iff.rfl
 |box k x=>simp only[Kb,Kc,aK.aAA (x:=x) ha]
 |bslice k es=>
  have e:∀p∈es,p.ev sl=p.ev sl':=fun p hp=>aK.aAA fun t ht=>ha t (List.mem_flatMap.2 ⟨p,hp,ht⟩);have e2:(∀x∈es,(x.ev sl).fits k=true)↔∀x∈es,(x.ev sl').fits k=true:=⟨fun h x hx=>by rw[←e x hx];exact h x hx,fun h x hx=>by rw[e x hx];exact h x hx⟩;simp only[Kb,Kc,gT (xs:=es) ha,e2]
 |append k b x y=>simp only[Kb,Kc,aK.aAA (x:=x) ha.left,aK.aAA (x:=y) ha.right]
 |store t x v=>simp only[Kb,Kc,aK.aAA (x:=x) ha.left,aK.aAA (x:=v) ha.right]
 |mkz k b x z=>simp only[Kb,Kc,aK.aAA (x:=x) ha]
 |appz k b x y z=>simp only[Kb,Kc,aK.aAA (x:=x) ha.left,aK.aAA (x:=y) ha.right]
 |clear k x z=>simp only[Kb,Kc,aK.aAA (x:=x) ha]
 |mp m=>
  cases m with
  |mk=>exact Iff.rfl
  |put kS ks x k v=>simp only[Kb,Kc,MOp.sem,aK.aAA (x:=x) ha.left,aK.aAA (x:=k) (eD.left ha.right),aK.aAA (x:=v) (eD.right ha.right)]
  |ent kS ks z x k=>simp only[Kb,Kc,MOp.sem,aK.aAA (x:=x) ha.left,aK.aAA (x:=k) ha.right]
  |est x s v=>simp only[Kb,Kc,MOp.sem,aK.aAA (x:=x) ha.left,aK.aAA (x:=s) (eD.left ha.right),aK.aAA (x:=v) (eD.right ha.right)]
  |del kS ks x k=>simp only[Kb,Kc,MOp.sem,aK.aAA (x:=x) ha.left,aK.aAA (x:=k) ha.right]
  |rng x=>simp only[Kb,Kc,MOp.sem,aK.aAA (x:=x) ha]
  |nxt x=>simp only[Kb,Kc,MOp.sem,aK.aAA (x:=x) ha]
  |key x=>simp only[Kb,Kc,MOp.sem,aK.aAA (x:=x) ha]
theorem bo{o:aA}{sl sl':List V}{l l':Mem}{a a':Nat}{v:V}{r:List aA}{Q:St→Prop}(e:evR call sl l a o=some (v,l',a'))(ha:eD sl sl' o.aAD)(hQ:aY P r Q ⟨bL sl' o.dst v,lk l',a'⟩):aY P (o::r) Q ⟨sl',lk l,a⟩:=by
 unfold aA.aAD at ha;simp only[evR,aY] at e⊢;have go:evO call sl l a o.op=some (v,l',a')→o.op.run P sl' (lk l) a fun v h' nx'=>aY P r Q ⟨bL sl' o.dst v,h',nx'⟩:=fun e=>(LOp.aCy hc ha.right).1 (GC hc e hQ);split at e
 ·rename_i hg;rw[hg];exact go e
 rename_i t want hg;rw[hg] at ha⊢;have ht:sl.getD t Ka=sl'.getD t Ka:=ha t Zm;rw[ht] at e;simp only;generalize sl'.getD t Ka=gv at e⊢;cases gv<;>first|(cases e;done)|skip
 ·rename_i b;simp only at e⊢;by_cases hb:b=want
  ·rw[if_pos hb];subst hb;simp only[beq_self_eq_true,cond_true] at e;exact go e
  rw[if_neg hb];rw[beq_false_of_ne hb] at e;simp only[cond_false,Option.some.injEq,Prod.mk.injEq] at e;obtain⟨rfl,rfl,rfl⟩:=e;exact hQ
 simp only[Option.some.injEq,Prod.mk.injEq] at e;obtain⟨rfl,rfl,rfl⟩:=e;exact hQ
theorem qu{Q:St→Prop}:∀{r:List aA} {s s':ES},evL call r s=some s'→Q s'.st→aY P r Q s.st
 | [],s,s',e,hQ=>by cases e;exact hQ
 |o::r,s,s',e,hQ=>by
  obtain⟨⟨v,l',a'⟩,h1,h2⟩:=Kf.1 e;exact bo hc h1 (fun _ _=>rfl) (qu h2 hQ)
end
theorem Ic{s t:ByteArray}(h:s.data.toList=t.data.toList):s=t:=by
 obtain⟨⟨a⟩⟩:=s;obtain⟨⟨b⟩⟩:=t;simp only at h;rw[h]
mutual
def eqV:V→V→Bool
 | .bool a, .bool b=>a==b
 | .int k n, .int k' m=>k==k'&&n==m
 | .str s, .str t=>s.data.toList==t.data.toList
 | .nilPtr, .nilPtr=>true
 | .ptr n k i o, .ptr n' k' i' o'=>n==n'&&k==k'&&i==i'&&o==o'
 | .ept k es i o, .ept k' es' i' o'=>k==k'&&i==i'&&o==o'&&qv es es'
 | .sl k w es, .sl k' w' es'=>k==k'&&w==w'&&qv es es'
 | .rs n k i o, .rs n' k' i' o'=>n==n'&&k==k'&&i==i'&&o==o'
 | .aAG, .aAG=>true
 | .map n, .map m=>n==m
 | .iface t v, .iface t' v'=>t==t'&&eqV v v'
 | .nilIface, .nilIface=>true
 | .aAV, .aAV=>true
 | .agg l, .agg l'=>qv l l'
 | .tup l, .tup l'=>qv l l'
 |_,_=>false
def qv:List V→List V→Bool
 | [],[]=>true
 |x::xs,y::ys=>eqV x y&&qv xs ys
 |_,_=>false
end
mutual
theorem Ap:∀{a b:V},eqV a b=true→a=b:=by
 intro a b h
 cases a<;>cases b<;>simp only[eqV,Ke,beq_iff_eq,Ks] at h<;>first
  |rfl|(cases h;done)|(subst h;rfl)|(rw[Ic h])
  |(obtain⟨⟨⟨rfl,rfl⟩,rfl⟩,rfl⟩:=h;rfl)
  |(obtain⟨⟨⟨rfl,rfl⟩,rfl⟩,h⟩:=h;rw[xC h])
  |(obtain⟨⟨rfl,rfl⟩,h⟩:=h;rw[xC h])
  |(obtain⟨rfl,h⟩:=h;first|rw[Ap h]|(subst h;rfl))
  |(rw[xC h])
theorem xC:∀{a b:List V},qv a b=true→a=b:=by
 intro a b h
 cases a<;>cases b<;>simp only[qv,Ke,Ks] at h<;>first
  |rfl|(cases h;done)|(rw[Ap h.1,xC h.2])
end
abbrev HD:=List (aA×List Nat)
def isM(o:aA):Bool:=match o.op with
 | .val _=>false
 |_=>true
def rdM(o:aA):Bool:=match o.op with
 | .val (.load _ _)=>true
 | .val (.mget _ _ _ _ _ _)=>true
 | .val (.mlen _)=>true
 |_=>false
def He(call:EC):HD→ES→Option (List ES)
 | [],s=>some [s]
 |(o,_)::r,s=>(evR call s.sl s.l s.a o).bind fun x=>(He call r (s.put o.dst x)).map (s:: ·)
def qf(hd:HD)(q:Nat→aA→List Nat→Bool):Bool:=(KC hd.length).all fun i=>match hd[i]? with
 |some (o,aAF)=>q i o aAF
 |none=>true
def H8(call:EC)(hd:HD)(ss:List ES)(s:ES)(F:List V):Bool:=
 qf hd fun i o aAF=>aAF.all (fun d=>Kg d i)&&(match o.dst with
  |some t=>Kg t s.sl.length
  |none=>true)&&
  (qf hd fun j o' _=>o.aAD.all fun t=>o'.dst != some t||aAF.contains j)&&
  (qf hd fun j o' _=>i==j||o.dst.isNone||o.dst != o'.dst)&&
  (!isM o||qf hd fun j o' _=> !Kg j i|| !isM o'||aAF.contains j)&&
  (!rdM o||(KC (hd.length+1)).all fun p=>
    (!qf hd fun k o' aAI=> !isM o'||(!(aAF.contains k&&Kp p k)&& !(Kg k p&&aAI.contains i)))||
    (match evR call (ss.getD i s).sl (ss.getD p s).l (ss.getD p s).a o with
      |some (v,_,_)=>match o.dst with
       |some t=>eqV v (F.getD t Ka)
       |none=>true
      |none=>false))
def evD(call:EC)(hd:HD)(s:ES):Option ES:=
 (He call hd s).bind fun ss=>bif H8 call hd ss s (ss.getD hd.length s).sl then some (ss.getD hd.length s) else none
theorem bd{hd:HD}{q:Nat→aA→List Nat→Bool}(h:qf hd q=true){i:Nat}{o:aA}{aAF:List Nat}(hi:hd[i]?=some (o,aAF)):q i o aAF=true:=by
 unfold qf at h;have h1:i<hd.length:=by
  rcases KA i hd.length with h|h
  ·exact h
  rw[Km h] at hi;cases hi
 have:=Kh.1 h i (Kz.2 h1);rw[hi] at this;exact this
theorem F9{hd:HD}{q:Nat→aA→List Nat→Bool}(h:qf hd q=false):∃i o aAF,hd[i]?=some (o,aAF)∧q i o aAF=false:=by
 unfold qf at h;obtain⟨i,h1,h2⟩:=List.all_eq_false.1 h;cases hi:hd[i]? with
 |none=>rw[hi] at h2;simp at h2
 |some p=>exact⟨i,p.1,p.2,hi,by rw[hi] at h2;simpa using h2⟩
theorem ua{sl:List V}{d:Option Nat}{v:V}:(bL sl d v).length=sl.length:=by cases d<;>simp[bL]
theorem p9{sl:List V}{d:Option Nat}{v:V}{t:Nat}(h:d≠some t):(bL sl d v).getD t Ka=sl.getD t Ka:=by
 cases d with
 |none=>rfl
 |some d=>
  have:d≠t:=fun e=>h (by rw[e]);simp[bL,Ki,Kw,this]
theorem A4{sl:List V}{t:Nat}{v:V}(h:t<sl.length):(bL sl (some t) v).getD t Ka=v:=by
 simp[bL,Ki,Kw,h]
theorem lz{call:EC}:∀{hd:HD} {s:ES} {ss:List ES},He call hd s=some ss→(∃r,ss=s::r)∧
 ∀i o aAF,hd[i]?=some (o,aAF)→∀d,∃x,evR call (ss.getD i d).sl (ss.getD i d).l (ss.getD i d).a o=some x∧ss.getD (i+1) d=(ss.getD i d).put o.dst x
 | [],s,ss,h=>by cases h;exact⟨⟨[],rfl⟩,fun i o aAF hi=>by cases hi⟩
 |(o,dp)::r,s,ss,h=>by
  obtain⟨x,h1,h2⟩:=Kf.1 h;obtain⟨ss',h3,rfl⟩:=Kd.1 h2;obtain⟨⟨q,g1⟩,g2⟩:=lz h3;refine⟨⟨_,rfl⟩,fun i o' aAF hi d=>?_⟩;cases i with
  |zero=>cases hi;exact⟨x,h1,by rw[g1];rfl⟩
  |succ i=>exact g2 i o' aAF (by simpa using hi) d
theorem oa{call:EC}{sl:List V}{l:Mem}{a:Nat}{o:aA}{x:V×Mem×Nat}(hm:isM o=false)(h:evR call sl l a o=some x):x.2.1=l∧x.2.2=a:=by
 unfold isM at hm;split at hm
 ·rename_i y hy;unfold evR at h;rw[hy] at h;have go:evO call sl l a (.val y)=some x→x.2.1=l∧x.2.2=a:=fun e=>by
   obtain⟨v,_,rfl⟩:=Kd.1 e;exact⟨rfl,rfl⟩
  split at h
  ·exact go h
  split at h
  ·rename_i b _;cases hb:b==_ with
   |true=>rw[hb] at h;exact go h
   |false=>rw[hb] at h;cases h;exact⟨rfl,rfl⟩
  ·cases h;exact⟨rfl,rfl⟩
  cases h
 cases hm
theorem Fj{call:EC}{sl:List V}{l l':Mem}{a a':Nat}{o:aA}{x:V×Mem×Nat}(hm:isM o=false)(hr:rdM o=false)(h:evR call sl l a o=some x):evR call sl l' a' o=some (x.1,l',a'):=by
 unfold isM at hm;unfold rdM at hr;split at hm
 ·rename_i y hy;unfold evR at h⊢;rw[hy] at h hr⊢;have go:evO call sl l a (.val y)=some x→evO call sl l' a' (.val y)=some (x.1,l',a'):=fun e=>by
   obtain⟨v,h1,rfl⟩:=Kd.1 e;have:y.val sl (lk l')=y.val sl (lk l):=by cases y<;>first|rfl|(cases hr;done)
   simp only[evO,LOp.stp,this,h1,Option.map_some]
  split at h
  ·exact go h
  split at h
  ·rename_i b _;cases hb:b==_ with
   |true=>rw[hb] at h;exact go h
   |false=>rw[hb] at h;cases h;rfl
  ·cases h;rfl
  cases h
 cases hm
theorem GD{P:Program}{call:EC}(hc:rq P call){hd:HD}{tl:List aA}{s s':ES}{Q:St→Prop}(e:evD call hd s=some s')(hQ:aY P tl Q s'.st):Bw P hd tl Q s.st:=by
 obtain⟨ss,aAe,e⟩:=Kf.1 e;cases hk:H8 call hd ss s (ss.getD hd.length s).sl with
 |false=>rw[hk] at e;cases e
 |true=>
 rw[hk] at e;cases e;obtain⟨⟨q0,hq0⟩,aBg⟩:=lz aAe;obtain⟨S,hS⟩:∃S:Nat→ES,∀i,ss.getD i s=S i:=⟨_,fun _=>rfl⟩;have hS0:S 0=s:=by rw[←hS,hq0];rfl
 have hst:∀i o aAF,hd[i]?=some (o,aAF)→∃x,evR call (S i).sl (S i).l (S i).a o=some x∧S (i+1)=(S i).put o.dst x:=fun i o aAF h=>by
  have:=aBg i o aAF h s;rwa [hS,hS] at this
 obtain⟨n,hn⟩:∃n,hd.length=n:=⟨_,rfl⟩;rw[hn,hS] at hk hQ;have hlt:∀{i o aAF},hd[i]?=some (o,aAF)→i<n:=fun{i o aAF} h=>by
  rcases KA i n with h1|h1
  ·exact h1
  rw[Km or] at h;cases h
 have hget:∀i,i<n→∃o aAF,hd[i]?=some (o,aAF):=fun i h=>⟨_,_,Kk or⟩
 have hck:∀{i o aAF},hd[i]?=some (o,aAF)→(∀d∈aAF,d<i)∧(∀t,o.dst=some t→t<s.sl.length)∧
  (∀j o' aAI,hd[j]?=some (o',aAI)→∀t∈o.aAD,o'.dst=some t→j∈aAF)∧(∀j o' aAI,hd[j]?=some (o',aAI)→i≠j→∀t,o.dst=some t→o'.dst≠some t)∧
  (isM o=true→∀j o' aAI,hd[j]?=some (o',aAI)→j<i→isM o'=true→j∈aAF)∧
  (rdM o=true→∀p,p≤n→(∃k o' aAI,hd[k]?=some (o',aAI)∧isM o'=true∧((k∈aAF∧p≤k)∨(k<p∧i∈aAI)))∨
    ∃v l a,evR call (S i).sl (S p).l (S p).a o=some (v,l,a)∧∀t,o.dst=some t→v=(S n).sl.getD t Ka):=fun{i o aAF} hi=>by
  have h:=bd hk hi;simp only[Ke,Ky,Kv,Kh] at h;obtain⟨⟨⟨⟨⟨h1,h2⟩,h3⟩,h4⟩,h5⟩,h6⟩:=h;refine⟨fun d hd=>by simpa [Kq] using h1 d hd,fun t ht=>?_,fun j o' aAI hj t ht hd=>?_,fun j o' aAI hj hne t ht hd=>?_,fun hm j o' aAI hj hji hm'=>?_,fun hr p hp=>?_⟩
  ·rw[ht] at h2;simpa [Kq] using h2
  ·have:=Kh.1 (bd h3 hj) t ht;simpa [hd] using this
  ·have:=bd h4 hj;simp[hne,ht,hd] at this
  ·rcases h5 with h5|h5
   ·rw[hm] at h5;cases h5
   have:=bd h5 hj;have hb:Kg j i=true:=by rw[be];exact hji
   simpa [hm',hb] using this
  rcases h6 with h6|h6
  ·rw[hr] at h6;cases h6
  rcases h6 p (Kz.2 or) with h|h
  ·obtain⟨k,o',aAI,hk',h⟩:=F9 h;simp only[Bool.or_eq_false_iff,Kt,Bool.and_eq_false_iff,Kt,Ke,List.contains_iff_mem,bf,be] at h;exact .inl ⟨k,o',aAI,hk',h.1,h.2⟩
  rw[hS,hS] at h;split at h
  ·rename_i v l a hv;refine .inr ⟨v,l,a,hv,fun t ht=>?_⟩;rw[ht] at h;exact Ap h
  cases h
 have hlen:∀i,i≤n→(S i).sl.length=s.sl.length:=by
  intro i;induction i with
  |zero=>intro _;rw[hS0]
  |succ i ih=>
   intro h;obtain⟨o,aAF,ho⟩:=hget i or;obtain⟨x,_,h2⟩:=hst i o aAF ho;rw[h2,←ih or];exact ua
 have aFP:∀t i i',i≤i'→i'≤n→(∀j o aAF,hd[j]?=some (o,aAF)→i≤j→j<i'→o.dst≠some t)→(S i').sl.getD t Ka=(S i).sl.getD t Ka:=by
  intro t i i' h;induction h with
  |refl=>intros;rfl
  |@step m hm ih=>
   intro hle hno;obtain⟨o,aAF,ho⟩:=hget m or;obtain⟨x,_,h2⟩:=hst m o aAF ho;rw[←ih or fun j o aAF hj h1 h2=>hno j o aAF hj h1 or,h2];exact p9 (hno m o aAF ho hm or)
 have aAh:∀j o aAF t,hd[j]?=some (o,aAF)→o.dst=some t→∀i,j<i→i≤n→(S i).sl.getD t Ka=(S n).sl.getD t Ka:=fun j o aAF t hj ht i hji hi=>by
  refine(aFP t i n hi (Kj _) fun k o' aAI hk' h1 h2=>?_).symm;exact(hck hj).2.2.2.1 k o' aAI hk' or t ht
 have aAm:∀p p',p≤p'→p'≤n→(∀k o aAF,hd[k]?=some (o,aAF)→p≤k→k<p'→isM o=false)→(S p').l=(S p).l∧(S p').a=(S p).a:=by
  intro p p' h;induction h with
  |refl=>intros;exact⟨rfl,rfl⟩
  |@step m hm ih=>
   intro hle hno;obtain⟨o,aAF,ho⟩:=hget m or;obtain⟨x,h1,h2⟩:=hst m o aAF ho;obtain⟨g1,g2⟩:=ih or fun k o aAF hk h1 h2=>hno k o aAF hk h1 or;obtain⟨q1,q2⟩:=oa (hno m o aAF ho hm or) h1;rw[h2];exact⟨q1.trans g1,q2.trans g2⟩
 refine⟨fun D s'=>s'.sl.length=s.sl.length∧(∀j o aAF t,hd[j]?=some (o,aAF)→D j=true→o.dst=some t→s'.sl.getD t Ka=(S n).sl.getD t Ka)∧
  (∀t,(∀j o aAF,hd[j]?=some (o,aAF)→D j=true→o.dst≠some t)→s'.sl.getD t Ka=s.sl.getD t Ka)∧
  ∃p,p≤n∧(∀k o aAF,hd[k]?=some (o,aAF)→isM o=true→(D k=true↔k<p))∧s'.h=lk (S p).l∧s'.nx=(S p).a,?_,?_,?_⟩
 ·refine⟨rfl,?_,fun _ _=>rfl,0,Kx _,?_,?_,?_⟩
  ·intro j o aAF t _ h;cases h
  ·intro k o aAF _ _;exact⟨fun h=>(by cases h),fun h=>absurd h (Nat.not_lt_zero _)⟩
  ·rw[hS0];rfl
  rw[hS0];rfl
 ·rintro D i o aAF ⟨sl',h',nx'⟩ hi hDi aAv hcl ⟨g1,g2,g3,p,hp,g4,g5,g6⟩;simp only at g1 g2 g3 g5 g6;subst g5 g6;have hin:=hlt hi;obtain⟨c1,c2,c3,c4,c5,c6⟩:=hck hi;obtain⟨x,hx1,hx2⟩:=hst i o aAF hi;have hal:eD (S i).sl sl' o.aAD:=fun t ht=>by
   by_cases hex:∃(j:Nat) (o':aA) (aAI:List Nat),hd[j]?=some (o',aAI)∧o'.dst=some t
   ·obtain⟨j,o',aAI,hj,hjt⟩:=hex;have hjd:=c3 j o' aAI hj t ht hjt;rw[g2 j o' aAI t hj (aAv j hjd) hjt,aAh j o' aAI t hj hjt i (c1 j hjd) or]
   have hno:∀(j:Nat) (o':aA) (aAI:List Nat),hd[j]?=some (o',aAI)→o'.dst≠some t:=fun j o' aAI hj hjt=>hex ⟨j,o',aAI,hj,hjt⟩;rw[aFP t 0 i (Kx _) or fun j o' aAI hj _ _=>hno j o' aAI hj,hS0,g3 t fun j o' aAI hj _=>hno j o' aAI hj]
  have hv:∀t,o.dst=some t→x.1=(S n).sl.getD t Ka:=fun t ht=>by
   rw[←aAh i o aAF t hi ht (i+1) or or,hx2];show _=(bL _ o.dst x.1).getD t Ka;rw[ht,A4 (by rw[hlen i or];exact c2 t ht)]
  have done:∀(v:V) (p':Nat),p'≤n→(∀t,o.dst=some t→v=(S n).sl.getD t Ka)→(∀k o' aAI,hd[k]?=some (o',aAI)→isM o'=true→((if k=i then true else D k)=true↔k<p'))→
   aY P [] (fun s':St=>s'.sl.length=s.sl.length∧(∀j o aAF t,hd[j]?=some (o,aAF)→(if j=i then true else D j)=true→o.dst=some t→s'.sl.getD t Ka=(S n).sl.getD t Ka)∧
    (∀t,(∀j o aAF,hd[j]?=some (o,aAF)→(if j=i then true else D j)=true→o.dst≠some t)→s'.sl.getD t Ka=s.sl.getD t Ka)∧
    ∃p,p≤n∧(∀k o aAF,hd[k]?=some (o,aAF)→isM o=true→((if k=i then true else D k)=true↔k<p))∧s'.h=lk (S p).l∧s'.nx=(S p).a) ⟨bL sl' o.dst v,lk (S p').l,(S p').a⟩:=fun v p' hp' hv hM=>by
   refine⟨ua.trans g1,fun j o' aAI t hj hD ht=>?_,fun t hno=>?_,p',hp',hM,rfl,rfl⟩
   ·by_cases hji:j=i
    ·subst hji;rw[hi] at hj;cases hj;rw[←hv t ht,ht];exact A4 (by rw[g1];exact c2 t ht)
    rw[if_neg hji] at hD;rw[←g2 j o' aAI t hj hD ht];exact p9 fun e=>c4 j o' aAI hj (fun e=>hji e.symm) t e ht
   rw[←g3 t fun j o' aAI hj hD=>hno j o' aAI hj (by split<;>first|rfl|exact hD)]
   exact p9 (hno i o aAF hi (by rw[if_pos rfl]))
  cases hm:isM o with
  |true=>
   --all memory's operations cX are done,none cB
   have aAc:∀k o' aAI,hd[k]?=some (o',aAI)→isM o'=true→(D k=true↔k<i):=fun k o' aAI hk' hm'=>by
    refine⟨fun hD=>?_,fun hki=>aAv k (c5 hm k o' aAI hk' hki hm')⟩;rcases Nat.lt_trichotomy k i with h|h|h
    ·exact h
    ·subst h;rw[hDi] at hD;cases hD
    have:=(hck hk').2.2.2.2.1 hm' i o aAF hi h hm;rw[hcl k o' aAI hk' hD i this] at hDi;cases hDi
   have hpi:(S p).l=(S i).l∧(S p).a=(S i).a:=by
    rcases Nat.le_total p i with h|h
    ·have:=aAm p i h or fun k o' aAI hk' h1 h2=>by
      cases hmk:isM o' with
      |false=>rfl
      |true=>have:=(g4 k o' aAI hk' hmk).1 ((aAc k o' aAI hk' hmk).2 h2);omega
     exact⟨this.1.symm,this.2.symm⟩
    exact aAm i p h hp fun k o' aAI hk' h1 h2=>by
     cases hmk:isM o' with
     |false=>rfl
     |true=>have:=(aAc k o' aAI hk' hmk).1 ((g4 k o' aAI hk' hmk).2 h2);omega
   rw[hpi.1,hpi.2];have h3:=done x.1 (i+1) or hv fun k o' aAI hk' hm'=>by
    by_cases hki:k=i
    ·simp[hki]
    rw[if_neg hki,aAc k o' aAI hk' hm'];omega
   rw[hx2] at h3;exact bo hc hx1 hal h3
  |false=>
   have h3:∀v,(∀t,o.dst=some t→v=(S n).sl.getD t Ka)→_:=fun v hv=>done v p hp hv fun k o' aAI hk' hm'=>by
    have hki:k≠i:=by rintro rfl;rw[hi] at hk';cases hk';rw[hm] at hm';cases hm'
    rw[if_neg hki];exact g4 k o' aAI hk' hm'
   cases hr:rdM o with
   |false=>
    have:=Fj (l':=(S p).l) (a':=(S p).a) hm hr hx1;exact bo hc this hal (h3 x.1 hv)
   |true=>
    rcases c6 hr p hp with⟨k,o',aAI,hk',hm',h⟩|⟨v,l,a,he,hvv⟩
    ·exfalso;rcases h with⟨h1,h2⟩|⟨h1,h2⟩
     ·have:=(g4 k o' aAI hk' hm').1 (aAv k h1);omega
     rw[hcl k o' aAI hk' ((g4 k o' aAI hk' hm').2 h1) i h2] at hDi;cases hDi
    obtain⟨q1,q2⟩:=oa hm he;simp only at q1 q2;subst q1 q2;exact bo hc he hal (h3 v hvv)
 rintro D ⟨sl',h',nx'⟩ hD ⟨g1,g2,g3,p,hp,g4,g5,g6⟩;simp only at g1 g2 g3 g5 g6;subst g5 g6;obtain⟨e1,e2⟩:=aAm p n hp (Kj _) fun k o aAF hk' h1 h2=>by
  cases hmk:isM o with
  |false=>rfl
  |true=>have:=(g4 k o aAF hk' hmk).1 (hD k or);omega
 have e3:sl'=(S n).sl:=by
  refine List.ext_getElem (by rw[g1,hlen n (Kj _)]) fun t h1 h2=>?_;have hgd:∀l:List V,(h:t<l.length)→l[t]=l.getD t Ka:=fun l h=>by rw[Ki,Kk h];rfl
  rw[hgd _ h1,hgd _ h2];by_cases hex:∃(j:Nat) (o':aA) (aAI:List Nat),hd[j]?=some (o',aAI)∧o'.dst=some t
  ·obtain⟨j,o',aAI,hj,hjt⟩:=hex;exact g2 j o' aAI t hj (hD j (by have:=hlt hj;omega)) hjt
  have hno:∀(j:Nat) (o':aA) (aAI:List Nat),hd[j]?=some (o',aAI)→o'.dst≠some t:=fun j o' aAI hj hjt=>hex ⟨j,o',aAI,hj,hjt⟩;rw[g3 t fun j o' aAI hj _=>hno j o' aAI hj,aFP t 0 n (Kx _) (Kj _) fun j o' aAI hj _ _=>hno j o' aAI hj,hS0]
 rw[e3,←e1,←e2];exact hQ
abbrev EX:=Option (bJ×ES)
def v8:Nat→(ES→EX)→ES→EX
 |0,_,_=>none
 |n+1,f,s=>match f s with
  |some (.normal,s)=>v8 n f s
  |r=>r
def evC(call:EC)(fl:Nat):aT→ES→EX
 | .skip,s=>some (.normal,s)
 | .ops l,s=>(evL call l s).map (.normal, ·)
 | .draw _ hd tl,s=>((evD call hd s).bind (evL call tl)).map (.normal, ·)
 | .seq a b,s=>match evC call fl a s with
  |some (.normal,s)=>evC call fl b s
  |r=>r
 | .cond c a b,s=>match c.ev s.sl with
  | .bool t=>bif t then evC call fl a s else evC call fl b s
  |_=>none
 | .block id c,s=>match evC call fl c s with
  |some (.exit i,s)=>bif i==id then some (.normal,s) else some (.exit i,s)
  |r=>r
 | .loop c,s=>v8 fl (evC call fl c) s
 | .exit id,s=>some (.exit id,s)
 | .ret,s=>some (.ret,s)
 | .range _ _ _ _,_=>none
theorem CZ{P:Program}{c:aT}{f:ES→EX}{Q:bJ→St→Prop}{r:bJ×ES}(hf:∀s x,f s=some x→∀Q:bJ→St→Prop,Q x.1 x.2.st→lwp P c Q s.st)(hQ:Q r.1 r.2.st){n:Nat}{s:ES}(e:v8 n f s=some r):lwp P (.loop c) Q s.st:=by
 refine wI (ι:=Nat×ES) (fun i=>v8 i.1 f i.2=some r) (fun i=>i.2.st) (fun i=>i.1) (n,s) e (Wk.refl _) ?_;rintro⟨n,s⟩ e;cases n with
 |zero=>cases e
 |succ n=>
  simp only[v8] at e;split at e
  ·rename_i s1 h;exact hf _ _ h _ (oG (n,s1) e (Nat.lt_succ_self _) (Wk.refl _))
  rename_i h;refine hf _ _ e _ ?_;obtain⟨x,s1⟩:=r;cases x with
  |normal=>exact absurd e (h _)
  |exit id=>exact lE hQ
  |ret=>exact kF hQ
theorem mG{P:Program}{call:EC}(hc:rq P call){fl:Nat}:∀(c:aT) (s:ES) (x:bJ×ES),evC call fl c s=some x→∀Q:bJ→St→Prop,Q x.1 x.2.st→lwp P c Q s.st
 | .skip,s,x,e,Q,hQ=>by cases e;exact hQ
 | .ops l,s,x,e,Q,hQ=>by
  obtain⟨s1,h1,rfl⟩:=Kd.1 e;exact qu hc (Q:=Q .normal) h1 hQ
 | .draw n hd tl,s,x,e,Q,hQ=>by
  obtain⟨s1,h1,rfl⟩:=Kd.1 e;obtain⟨s2,h2,h3⟩:=Kf.1 h1;exact pE (GD hc h2 (qu hc (Q:=Q .normal) h3 hQ))
 | .seq a b,s,x,e,Q,hQ=>by
  simp only[evC] at e;split at e
  ·rename_i s1 h;exact bS (mG hc a s _ h _ (aX (mG hc b s1 x e Q hQ)))
  rename_i h;refine bS (mG hc a s _ e _ ?_);obtain⟨x,s1⟩:=x;cases x with
  |normal=>exact absurd e (h _)
  |exit id=>exact mJ hQ
  |ret=>exact mR hQ
 | .cond c a b,s,x,e,Q,hQ=>by
  simp only[evC] at e;split at e
  ·rename_i t h;refine dI t h (fun ht=>?_) fun ht=>?_
   ·subst ht;exact mG hc a s x e Q hQ
   subst ht;exact mG hc b s x e Q hQ
  cases e
 | .block id c,s,x,e,Q,hQ=>by
  simp only[evC] at e;split at e
  ·rename_i i s1 h;refine bK (mG hc c s _ h _ ?_);by_cases hi:i=id
   ·subst hi;simp only[beq_self_eq_true,cond_true,Option.some.injEq] at e;subst e;exact dY hQ
   rw[beq_false_of_ne hi] at e;simp only[cond_false,Option.some.injEq] at e;subst e;exact cQ hi hQ
  rename_i h;refine bK (mG hc c s _ e _ ?_);obtain⟨x,s1⟩:=x;cases x with
  |normal=>exact aU hQ
  |exit id=>exact absurd e (h _ _)
  |ret=>exact iO hQ
 | .loop c,s,x,e,Q,hQ=>CZ (fun s x e Q hQ=>mG hc c s x e Q hQ) hQ e
 | .exit id,s,x,e,Q,hQ=>by cases e;exact hQ
 | .ret,s,x,e,Q,hQ=>by cases e;exact hQ
 | .range _ _ _ _,s,x,e,Q,hQ=>by cases e
def Bu(s:ES):List zF→List V→Option V
 | [],acc=>some (iY acc)
 | .slot t::r,acc=>Bu s r (acc++[s.sl.getD t Ka])
 | .cell t k::r,acc=>((aW.load k (.slot t)).val s.sl (lk s.l)).bind fun v=>Bu s r (acc++[v])
theorem yU{s:ES}{R:V→Prop}:∀{rs:List zF} {acc:List V} {v:V},Bu s rs acc=some v→R v→lT s.st rs acc fun vs=>R (iY vs)
 | [],acc,v,e,hR=>by cases e;exact hR
 | .slot t::r,acc,v,e,hR=>yU (rs:=r) e hR
 | .cell t k::r,acc,v,e,hR=>by
  obtain⟨w,h1,h2⟩:=Kf.1 e;exact aW.aCw (R:=fun v=>lT s.st r (acc++[v]) fun vs=>R (iY vs)) h1 (yU (rs:=r) h2 hR)
abbrev yb:=List (Nat×List V×V)
def Gw(f:Nat)(args:List V):yb→Option V
 | []=>none
 |(g,zAs,v)::r=>bif g==f&&qv args zAs then some v else Gw f args r
def GA(f:Nat):List (Nat×LFn)→Option LFn
 | []=>none
 |(g,L)::r=>bif g==f then some L else GA f r
def evF(T:List (Nat×LFn))(kn:yb)(fl:Nat):Nat→EC
 |0,_,_,_,_=>none
 |n+1,f,args,l,a=>match Gw f args kn with
  |some v=>some (v,l,a)
  |none=>match GA f T with
   |some L=>match evC (evF T kn fl n) fl L.body ⟨args++List.replicate (L.nt-args.length) Ka,l,a⟩ with
    |some (.exit _,_)=>none
    |some (_,s)=>(Bu s L.res []).map fun v=>(v,s.l,s.a)
    |none=>none
   |none=>none
theorem Fk{P:Program}{T:List (Nat×LFn)}{kn:yb}{fl:Nat}(hT:∀p∈T,aE P p.1=some p.2)(hk:∀p∈kn,aM P p.1 p.2.1 Hp.none p.2.2):∀n,rq P (evF T kn fl n)
 |0,f,args,l,a,v,l',a',e=>by cases e
 |n+1,f,args,l,a,v,l',a',e=>by
  have aPI:∀{kn:yb} {w},(∀p∈kn,aM P p.1 p.2.1 Hp.none p.2.2)→Gw f args kn=some w→aM P f args Hp.none w:=by
   intro kn;induction kn with
   |nil=>intro w _ h;cases h
   |cons p r ih=>
    intro w hk h;obtain⟨g,zAs,u⟩:=p;simp only[Gw] at h;cases hb:g==f&&qv args zAs with
    |false=>rw[hb] at h;exact ih (fun p hp=>hk p (Ko _ hp)) h
    |true=>
     rw[hb] at h;simp only[Ke,beq_iff_eq] at hb;cases h;have:=hk _ (Ku ..);rw[←xC hb.2,hb.1] at this;exact this
  have aXY:∀{T:List (Nat×LFn)} {L},(∀p∈T,aE P p.1=some p.2)→GA f T=some L→aE P f=some L:=by
   intro T;induction T with
   |nil=>intro L _ h;cases h
   |cons p r ih=>
    intro L hT h;obtain⟨g,u⟩:=p;simp only[GA] at h;cases hb:g==f with
    |false=>rw[hb] at h;exact ih (fun p hp=>hT p (Ko _ hp)) h
    |true=>
     rw[hb] at h;cases h;have:=hT _ (Ku ..);rwa [beq_iff_eq.1 hb] at this
  simp only[evF] at e;split at e
  ·rename_i w hw;cases e;exact aPI hk hw _ _ (bH _)
  split at e
  ·rename_i L hL;have aCM:=aXY hT hL;obtain⟨b,nt,res⟩:=L;refine aB aCM fun _=>?_;split at e
   ·cases e
   ·rename_i x s hx hev;obtain⟨v,h1,h2⟩:=Kd.1 e;cases h2;refine mG (Fk hT hk n) _ _ _ hev _ ?_;have hp:lT s.st res [] fun vs=>∃h',h'.le s.st.h∧(iY vs=v∧h'=lk s.l∧s.st.nx=s.a):=
     yU (R:=fun w=>∃h',h'.le s.st.h∧(w=v∧h'=lk s.l∧s.st.nx=s.a)) h1 ⟨_,Hp.le_refl _,rfl,rfl,rfl⟩
    cases x with
    |exit id=>exact absurd rfl (hx id)
    |normal=>exact hp
    |ret=>exact hp
   cases e
  cases e
theorem Cb{P:Program}{f:FuncId}{b:Bool}(c:aR P f [] Hp.none 0 fun v _ _=>v= .bool b):aM P f [] Hp.none (.bool b):=by
 intro h' nx _;refine⟨c.1,fun K cargs hlv hrel aBu=>?_⟩;refine(c.2 {K with live:=fun _=>False,fro:=fun b=>b<K.w.heap.size} cargs (fun _ h=>h.elim) ⟨fun _ _ h=>(by cases h),fun _ _ h=>(by cases h),fun _ _ h=>(by cases h),fun _ _ _ _ h=>(by cases h),hrel.size.all.re rfl rfl⟩ ⟨aBu.1,fun i hi=>absurd hi Zm⟩).mono ?_;rintro e w' ⟨K',v,cv,h'',nx',rfl,rfl,hle,hvr,aCK,aGe,hnx,rfl⟩;have aCV:K.le ⟨K'.w,K.mu,K.imm,K.tp,K.live,K.fro⟩:=⟨fun _ h=>h,fun _ _=>rfl,fun _ _=>rfl,rfl,fun _ _=>Kj _,fun b o hb _=>hle.cell b o hb (.inl hb),hle.shape,
  ⟨hle.below.os,hle.below.tape,hle.below.output,hle.below.drawn,hle.below.size,fun b hb _=>hle.below.block b hb (.inl hb)⟩⟩
 refine⟨⟨K'.w,K.mu,K.imm,K.tp,K.live,K.fro⟩, .bool b,cv,h',nx,rfl,rfl,aCV,?_,?_,fun n hn=>⟨hlv n hn, .inl hn⟩,Kj _,rfl,rfl,rfl⟩
 ·cases hvr;exact .bool b
 exact hrel.keep aCV fun n b e=>⟨hle.below.block _ (hrel.blk n b e).lt_size (.inl (hrel.blk n b e).lt_size),rfl⟩
end Go.Proofs.YtlhedpgobaellaaGreatDoor
