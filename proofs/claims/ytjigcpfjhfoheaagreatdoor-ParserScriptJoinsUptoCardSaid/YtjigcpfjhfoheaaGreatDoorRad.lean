/- The parser as plain functions on a list of tokens; no program in sight; The reference's reader as plain functions; it reads as the parser does; Readers never go back; statements; the reference reads as the parser does; Readers loo. -/
import Derived.Test.YtjigcpfjhfoheaaGreatDoorRaa
import Derived.Test.YtjigcpfjhfoheaaGreatDoorRab
namespace Go.Proofs.YtjigcpfjhfoheaaGreatDoor
open Go.RowKit
set_option maxHeartbeats 1000000
set_option maxRecDepth 100000
set_option linter.unusedVariables false
set_option linter.unusedSimpArgs false
section
open Lx (Tk)
structure Ps where
 r:List Tk
 bad:Bool
def Ps.hd (s:Ps):Tk:=s.r.headD ⟨0,[],0⟩
def Ps.next (s:Ps):Ps:=⟨s.r.tail,s.bad⟩
def Ps.fail (s:Ps):Ps:=⟨s.r,true⟩
def tkB (t:Tk):ByteArray:=⟨t.text.toArray⟩
abbrev M (α:Type):=Ps→α×Ps
def isS (t:ByteArray) (s:Ps):Bool:=!s.bad&& ((s.hd.kind==2||s.hd.kind==5) &&decide (tkB s.hd=t))
def iV (t:ByteArray):M Bool:=fun s=> (isS t s,if isS t s then s.next else s)
def needP (t:ByteArray) (s:Ps):Ps:=if isS t s then s.next else s.fail
def hasK (k:Nat) (s:Ps):Bool:=!s.bad&&s.hd.kind==k
def takP (k:Nat):M ByteArray:=fun s=>if hasK k s then (tkB s.hd,s.next)else (⟨#[]⟩,s.fail)
def fc (b:ByteArray):Int:=(Lx.digVal b.data.toList:Nat)
def numP:M Int:=fun s=> (fc (takP 3 s).1,(takP 3 s).2)
def posP:M Int:=fun s=>numP (if hasK 3 s&&fc (tkB s.hd)==0 then s.fail else s)
def opE (o:Int) (ks:List Ex):Ex:= .mk ⟨o,⟨#[]⟩,⟨#[]⟩,0,0,0,⟨#[]⟩⟩ ks
def fp (k i:Int) (t:ByteArray):Ex:= .mk ⟨1,⟨#[]⟩,⟨#[]⟩,0,k,i,t⟩ []
def colE (t n:ByteArray):Ex:= .mk ⟨2,t,n,0,0,0,⟨#[]⟩⟩ []
abbrev kAND:ByteArray:=⟨#[65,78,68]⟩
abbrev kOR:ByteArray:=⟨#[79,82]⟩
abbrev kNOT:ByteArray:=⟨#[78,79,84]⟩
abbrev kIS:ByteArray:=⟨#[73,83]⟩
abbrev kNULL:ByteArray:=⟨#[78,85,76,76]⟩
abbrev kLIKE:ByteArray:=⟨#[76,73,75,69]⟩
abbrev iW:ByteArray:=⟨#[66,69,84,87,69,69,78]⟩
abbrev kIN:ByteArray:=⟨#[73,78]⟩
abbrev nN:ByteArray:=⟨#[76,69,78,71,84,72]⟩
abbrev bR:ByteArray:=⟨#[67,82,69,65,84,69]⟩
abbrev eg:ByteArray:=⟨#[84,65,66,76,69]⟩
abbrev cg:ByteArray:=⟨#[73,78,83,69,82,84]⟩
abbrev kINTO:ByteArray:=⟨#[73,78,84,79]⟩
abbrev kVALUES:ByteArray:=⟨#[86,65,76,85,69,83]⟩
abbrev cE:ByteArray:=⟨#[85,80,68,65,84,69]⟩
abbrev kSET:ByteArray:=⟨#[83,69,84]⟩
abbrev dc:ByteArray:=⟨#[68,69,76,69,84,69]⟩
abbrev kFROM:ByteArray:=⟨#[70,82,79,77]⟩
abbrev dd:ByteArray:=⟨#[83,69,76,69,67,84]⟩
abbrev fq:ByteArray:=⟨#[66,69,71,73,78]⟩
abbrev eI:ByteArray:=⟨#[67,79,77,77,73,84]⟩
abbrev dt:ByteArray:=⟨#[82,79,76,76,66,65,67,75]⟩
abbrev kTO:ByteArray:=⟨#[84,79]⟩
abbrev eh:ByteArray:=⟨#[83,65,86,69,80,79,73,78,84]⟩
abbrev iX:ByteArray:=⟨#[82,69,76,69,65,83,69]⟩
abbrev fU:ByteArray:=⟨#[87,72,69,82,69]⟩
abbrev ei:ByteArray:=⟨#[80,82,73,77,65,82,89]⟩
abbrev kKEY:ByteArray:=⟨#[75,69,89]⟩
abbrev ft:ByteArray:=⟨#[85,78,73,81,85,69]⟩
abbrev jD:ByteArray:=⟨#[67,72,69,67,75]⟩
abbrev fV:ByteArray:=⟨#[70,79,82,69,73,71,78]⟩
abbrev kREFERENCES:ByteArray:=⟨#[82,69,70,69,82,69,78,67,69,83]⟩
abbrev dG:ByteArray:=⟨#[73,78,84,69,71,69,82]⟩
abbrev mQ:ByteArray:=⟨#[84,69,88,84]⟩
abbrev ia:ByteArray:=⟨#[74,79,73,78]⟩
abbrev kON:ByteArray:=⟨#[79,78]⟩
abbrev jE:ByteArray:=⟨#[71,82,79,85,80]⟩
abbrev kBY:ByteArray:=⟨#[66,89]⟩
abbrev jF:ByteArray:=⟨#[79,82,68,69,82]⟩
abbrev kLIMIT:ByteArray:=⟨#[76,73,77,73,84]⟩
abbrev kCOUNT:ByteArray:=⟨#[67,79,85,78,84]⟩
abbrev kSUM:ByteArray:=⟨#[83,85,77]⟩
abbrev kMIN:ByteArray:=⟨#[77,73,78]⟩
abbrev kMAX:ByteArray:=⟨#[77,65,88]⟩
abbrev kAS:ByteArray:=⟨#[65,83]⟩
abbrev kASC:ByteArray:=⟨#[65,83,67]⟩
abbrev kZ:ByteArray:=⟨#[68,69,83,67]⟩
abbrev yLp:ByteArray:=⟨#[40]⟩
abbrev yRp:ByteArray:=⟨#[41]⟩
abbrev yCm:ByteArray:=⟨#[44]⟩
abbrev yDot:ByteArray:=⟨#[46]⟩
abbrev dH:ByteArray:=⟨#[42]⟩
abbrev du:ByteArray:=⟨#[45]⟩
abbrev yEq:ByteArray:=⟨#[61]⟩
abbrev iY:ByteArray:=⟨#[59]⟩
def firstP:List (ByteArray×Int)→Ps→Option Int×Ps
 | [],s=> (none,s)
 |(t,o)::l,s=>if isS t s then (some o,s.next)else firstP l s
def aX (el:M Ex) (ops:List (ByteArray×Int)):Nat→Ex→Ps→Ex×Ps
 |0,e,s=> (e,s)
 |n+1,e,s=>
  match (firstP ops s).1 with
  |none=> (e,s)
  |some o=>aX el ops n (opE o [e,(el (firstP ops s).2).1]) (el (firstP ops s).2).2
def chainP (el:M Ex) (ops:List (ByteArray×Int)):M Ex:=fun s=>aX el ops (s.r.length+1) (el s).1 (el s).2
def listGo {α:Type} (el:M α):Nat→List α→Ps→List α×Ps
 |0,out,s=> (out,s)
 |n+1,out,s=>if isS yCm s then listGo el n (out++ [(el s.next).1]) (el s.next).2 else (out,s)
def listP {α:Type} (el:M α):M (List α):=fun s=>listGo el (s.r.length+1) [(el s).1] (el s).2
def opsOr:List (ByteArray×Int):= [(⟨#[79,82]⟩,19)]
def opsAnd:List (ByteArray×Int):= [(⟨#[65,78,68]⟩,18)]
def opsSum:List (ByteArray×Int):= [(⟨#[43]⟩,4),(⟨#[45]⟩,5)]
def opsPro:List (ByteArray×Int):= [(⟨#[42]⟩,6),(⟨#[47]⟩,7),(⟨#[37]⟩,8)]
def opsCmp:List (ByteArray×Int):= [(⟨#[61]⟩,10),(⟨#[60,62]⟩,11),(⟨#[60]⟩,12),(⟨#[60,61]⟩,13),(⟨#[62]⟩,14),(⟨#[62,61]⟩,15)]
def opsAgg:List (ByteArray×Int):= [(⟨#[67,79,85,78,84]⟩,2),(⟨#[83,85,77]⟩,3),(⟨#[77,73,78]⟩,4),(⟨#[77,65,88]⟩,5)]
def eS:M Ex:=fun s=>
 if isS yDot (takP 1 s).2 then (colE (takP 1 s).1 (takP 1 (takP 1 s).2.next).1,(takP 1 (takP 1 s).2.next).2)
 else (colE ⟨#[]⟩ (takP 1 s).1,(takP 1 s).2)
def negE (b:Bool) (e:Ex):Ex:=if b then opE 20 [e]else e
def optP (t:ByteArray) (s:Ps):Ps:=if isS t s then s.next else s
section
variable (rec:M Ex)
def aD:M Ex:=fun s=>
 if hasK 3 s then (fp 1 (numP s).1 ⟨#[]⟩,(numP s).2)
 else if hasK 4 s then (fp 2 0 (takP 4 s).1,(takP 4 s).2)
 else if isS kNULL s then (fp 0 0 ⟨#[]⟩,s.next)
 else if isS nN s then (opE 9 [(rec (needP yLp s.next)).1],needP yRp (rec (needP yLp s.next)).2)
 else if isS yLp s then ((rec s.next).1,needP yRp (rec s.next).2)
 else eS s
def dL (prim:M Ex):M Ex:=fun s=>if isS du s then (opE 3 [(prim s.next).1],(prim s.next).2)else prim s
def proP (prim:M Ex):M Ex:=chainP (dL prim) opsPro
def sumP (prim:M Ex):M Ex:=chainP (proP prim) opsSum
def hJ (sum:M Ex) (a:Ex):Nat→Ex→Ps→Ex×Ps
 |0,e,s=> (e,s)
 |n+1,e,s=>if isS yCm s then hJ sum a n (opE 19 [e,opE 10 [a,(sum s.next).1]]) (sum s.next).2 else (e,s)
def inP (sum:M Ex) (a:Ex):M Ex:=fun s=>hJ sum a (s.r.length+1) (opE 10 [a,(sum s).1]) (sum s).2
def de (sum:M Ex) (a:Ex):M Ex:=fun s=>
 match (firstP opsCmp s).1 with
 |some o=> (opE o [a,(sum (firstP opsCmp s).2).1],(sum (firstP opsCmp s).2).2)
 |none=>
  if isS kIS s then (negE (isS kNOT s.next) (opE 17 [a]),needP kNULL (optP kNOT s.next))
  else if isS kLIKE (optP kNOT s)then (negE (isS kNOT s) (opE 16 [a,fp 2 0 (takP 4 (optP kNOT s).next).1]),(takP 4 (optP kNOT s).next).2)
  else if isS iW (optP kNOT s)then
   (negE (isS kNOT s) (opE 18 [opE 15 [a,(sum (optP kNOT s).next).1],opE 13 [a,(sum (needP kAND (sum (optP kNOT s).next).2)).1]]),(sum (needP kAND (sum (optP kNOT s).next).2)).2)
  else if isS kIN (optP kNOT s)then
   (negE (isS kNOT s) (inP sum a (needP yLp (optP kNOT s).next)).1,needP yRp (inP sum a (needP yLp (optP kNOT s).next)).2)
  else (a,if isS kNOT s then (optP kNOT s).fail else s)
def testP (prim:M Ex):M Ex:=fun s=>de (sumP prim) (sumP prim s).1 (sumP prim s).2
def notGo (prim:M Ex):Nat→Ps→Ex×Ps
 |0,s=>testP prim s
 |n+1,s=>if isS kNOT s then (opE 20 [(notGo prim n s.next).1],(notGo prim n s.next).2)else testP prim s
def notP (prim:M Ex):M Ex:=fun s=>notGo prim s.r.length s
def andP (prim:M Ex):M Ex:=chainP (notP prim) opsAnd
def orP (prim:M Ex):M Ex:=chainP (andP prim) opsOr
end
def exprP:Nat→M Ex
 |0=>fun s=> (colE ⟨#[]⟩ ⟨#[]⟩,s)
 |n+1=>orP (aD (exprP n))
def aA {α β:Type} (m:M α) (f:α→M β):M β:=fun s=>f (m s).1 (m s).2
def aY {α:Type} (a:α):M α:=fun s=> (a,s)
def aU (t:ByteArray):M Unit:=fun s=> ((),needP t s)
def ifM {α:Type} (t:ByteArray) (m n:M α):M α:=fun s=>if isS t s then m s.next else n s
def fstM {α:Type} (ops:List (ByteArray×Int)) (f:Int→M α) (m:M α):M α:=fun s=>
 match (firstP ops s).1 with
 |some o=>f o (firstP ops s).2
 |none=>m s
structure Df where
 cols:List Cd
 keys:List (List ByteArray)
 frs:List Rf
 chk:List Ex
def namesP:M (List ByteArray):=aA (aU yLp) fun _=>aA (listP (takP 1)) fun l=>aA (aU yRp) fun _=>aY l
def fd:M Int:=ifM du (aA numP fun n=>aY (-n)) numP
def bnd2P:M (Int×Int×Int×Int):=aA fd fun a=>aA (aU yCm) fun _=>aA fd fun b=>aA (aU yRp) fun _=>aY (1,a,b,0)
def maxP:M (Int×Int×Int×Int):=aA numP fun n=>aA (aU yRp) fun _=>aY (2,0,0,n)
def typP:M (Int×Int×Int×Int):=
 ifM dG (ifM yLp bnd2P (aY (1,-2147483648,2147483647,0))) (aA (aU mQ) fun _=>ifM yLp maxP (aY (2,0,0,16)))
def fQ:M Cd:=aA (takP 1) fun a=>aA typP fun t=>ifM kNOT (aA (aU kNULL) fun _=>aY ⟨a,t.1,t.2.1,t.2.2.1,t.2.2.2,true⟩) (aY ⟨a,t.1,t.2.1,t.2.2.1,t.2.2.2,false⟩)
def refP:M Rf:=aA namesP fun a=>aA (aU kREFERENCES) fun _=>aA (takP 1) fun t=>aA namesP fun b=>aY ⟨a,t,b⟩
def stZ:St:=⟨0,⟨#[]⟩,[],[],[],[],[],[],[],[],exZ,[],[],0,⟨#[]⟩⟩
def nnC (l:List ByteArray) (c:Cd):Cd:= { c with nn:=c.nn||l.contains c.nm }
def srcP:M Src:=aA (takP 1) fun t=>ifM kAS (aA (takP 1) fun a=>aY ⟨t,a⟩) (aY ⟨t,⟨#[]⟩⟩)
def hU (pos:M Int):M Ord':=aA pos fun n=>ifM kASC (aY ⟨n,false⟩) (ifM kZ (aY ⟨n,true⟩) (aY ⟨n,false⟩))
def grpP:M (List Ex):=ifM jE (aA (aU kBY) fun _=>listP eS) (aY [])
def fW (pos:M Int):M (List Ord'):=ifM jF (aA (aU kBY) fun _=>listP (hU pos)) (aY [])
def limP (pos:M Int):M Int:=ifM kLIMIT pos (aY 0)
def nmP (k:Int):M St:=aA (takP 1) fun a=>aY { stZ with kd:=k,nm:=a }
section
variable (ex:M Ex)
def elemP (d:Df) (l:List ByteArray):M (Df×List ByteArray):=
 ifM ei (aA (aU kKEY) fun _=>aA namesP fun k=>aY ({ d with keys:=d.keys++ [k] },l++k))
  (ifM ft (aA namesP fun k=>aY ({ d with keys:=d.keys++ [k] },l))
   (ifM jD (aA (aU yLp) fun _=>aA ex fun e=>aA (aU yRp) fun _=>aY ({ d with chk:=d.chk++ [e] },l))
    (ifM fV (aA (aU kKEY) fun _=>aA refP fun f=>aY ({ d with frs:=d.frs++ [f] },l))
     (aA fQ fun c=>aY ({ d with cols:=d.cols++ [c] },l)))))
def cr:Nat→Df→List ByteArray→M (Df×List ByteArray)
 |0,d,l=>aY (d,l)
 |n+1,d,l=>ifM yCm (aA (elemP ex d l) fun x=>cr n x.1 x.2) (aY (d,l))
def dv:M (Df×List ByteArray):=fun s=>aA (elemP ex ⟨[],[],[],[]⟩ []) (fun x=>cr ex (s.r.length+1) x.1 x.2) s
def createP:M St:=
 aA (aU eg) fun _=>aA (takP 1) fun t=>aA (aU yLp) fun _=>aA (dv ex) fun x=>aA (aU yRp) fun _=>
  aY { stZ with kd:=1,tb:=t,cols:=x.1.cols.map (nnC x.2),keys:=x.1.keys,frs:=x.1.frs,chk:=x.1.chk }
def tupP:M (List Ex):=aA (aU yLp) fun _=>aA (listP ex) fun l=>aA (aU yRp) fun _=>aY l
def whrP:M Ex:=ifM fU ex (aY exZ)
def asgP:M Asg:=aA (takP 1) fun a=>aA (aU yEq) fun _=>aA ex fun e=>aY ⟨a,0,e⟩
def itm1 (o:Int):M Itm:=aA ex fun e=>aA (aU yRp) fun _=>aY ⟨o,e⟩
def fX:M Itm:=
 fstM opsAgg (fun o=>aA (aU yLp) fun _=>if o=2 then ifM dH (aA (aU yRp) fun _=>aY ⟨1,exZ⟩) (itm1 ex o)else itm1 ex o) (aA ex fun e=>aY ⟨0,e⟩)
def fromGo:Nat→List Src→List Ex→M (List Src×List Ex)
 |0,l,c=>aY (l,c)
 |n+1,l,c=>ifM yCm (aA srcP fun x=>fromGo n (l++ [x]) c) (ifM ia (aA srcP fun x=>aA (aU kON) fun _=>aA ex fun e=>fromGo n (l++ [x]) (c++ [e])) (aY (l,c)))
def fromP:M (List Src×List Ex):=fun s=>aA srcP (fun x=>fromGo ex (s.r.length+1) [x] []) s
def andL:List Ex→Ex
 | []=>exZ
 |e::l=>l.foldl (fun a b=>opE 18 [a,b]) e
def fM (conj:List Ex→Ex) (c:List Ex):M Ex:=ifM fU (aA ex fun e=>aY (conj (c++ [e]))) (aY (conj c))
def itmsP:M (List Itm):=ifM dH (aY []) (listP (fX ex))
def queryP (pos:M Int) (conj:List Ex→Ex):M St:=
 aA (itmsP ex) fun i=>aA (aU kFROM) fun _=>aA (fromP ex) fun f=>aA (fM ex conj f.2) fun w=>aA grpP fun g=>aA (fW pos) fun o=>aA (limP pos) fun l=>
  aY { stZ with kd:=5,itms:=i,frm:=f.1,whr:=w,grp:=g,ord:=o,lim:=l }
def fu:M St:=aA (aU kINTO) fun _=>aA (takP 1) fun t=>aA (aU kVALUES) fun _=>aA (listP (tupP ex)) fun v=>aY { stZ with kd:=2,tb:=t,vals:=v }
def fv:M St:=aA (takP 1) fun t=>aA (aU kSET) fun _=>aA (listP (asgP ex)) fun v=>aA (whrP ex) fun w=>aY { stZ with kd:=3,tb:=t,sets:=v,whr:=w }
def fx:M St:=aA (aU kFROM) fun _=>aA (takP 1) fun t=>aA (whrP ex) fun w=>aY { stZ with kd:=4,tb:=t,whr:=w }
def fN (pos:M Int) (conj:List Ex→Ex) (last:M St):M St:=
 ifM bR (createP ex) (ifM cg (fu ex) (ifM cE (fv ex) (ifM dc (fx ex) (ifM dd (queryP ex pos conj)
  (ifM fq (aY { stZ with kd:=6 }) (ifM eI (aY { stZ with kd:=7 }) (ifM dt (ifM kTO (nmP 10) (aY { stZ with kd:=8 })) (ifM eh (nmP 9) last))))))))
end
def ic:M St:=ifM iX (nmP 11) (fun s=> (stZ,s.fail))
def endP (s:Ps):Ps:=if hasK 0 s then s else s.fail
def jG {α:Type} (m:M α) (l:List Tk):Nat ⊕ α:=
 if (endP (m ⟨l,false⟩).2).bad then .inl (endP (m ⟨l,false⟩).2).hd.pos else .inr (m ⟨l,false⟩).1
def stmP (n:Nat):M St:=fN (exprP n) posP andL ic
end
section
open Lx (Tk)
def Rel {α:Type} (x y:α×Ps):Prop:=x=y∨(x.2=y.2∧x.2.bad=true)
def Sim {α:Type} (m n:M α):Prop:=∀s,Rel (m s) (n s)
def Stk {α:Type} (m:M α):Prop:=∀s,s.bad=true→(m s).2=s
theorem bad_isS {s:Ps} (h:s.bad=true) (t:ByteArray):isS t s=false:=by simp[isS,h]
theorem la {s:Ps} (h:s.bad=true) (k:Nat):hasK k s=false:=by simp[hasK,h]
theorem oZ {s:Ps} (h:s.bad=true):s.fail=s:=by cases s;simp[Ps.fail]at*;exact h
theorem fY {s:Ps} (h:s.bad=true) (t:ByteArray):needP t s=s:=by rw[needP,bad_isS h,if_neg (by simp),oZ h]
theorem bad_opt {s:Ps} (h:s.bad=true) (t:ByteArray):optP t s=s:=by rw[optP,bad_isS h,if_neg (by simp)]
theorem kC {s:Ps} (h:s.bad=true) (k:Nat):takP k s=(⟨#[]⟩,s):=by unfold takP;rw[la h,if_neg (by simp),oZ h]
theorem cN (k:Nat):Stk (takP k):=fun s h=>by rw[kC h]
theorem nO:Stk numP:=fun s h=>by unfold numP;rw[kC h]
theorem stk_pos:Stk posP:=fun s h=>by unfold posP;rw[la h];simp[nO s h]
theorem gF (l:List (ByteArray×Int)):∀s:Ps,s.bad=true→firstP l s=(none,s):=by
 induction l with
 |nil=>intro s _;rfl
 |cons a l ih=>intro s h;rw[firstP,bad_isS h,if_neg (by simp),ih s h]
theorem o3 (el:M Ex) (ops:List (ByteArray×Int)):∀(n:Nat) (e:Ex) (s:Ps),s.bad=true→aX el ops n e s=(e,s)
 |0,_,_,_=>rfl
 |n+1,e,s,h=>by rw[aX,gF ops s h]
theorem gG {el:M Ex} (h:Stk el) (ops:List (ByteArray×Int)):Stk (chainP el ops):=fun s hb=>by
 unfold chainP
 rw[h s hb,o3 el ops _ _ _ hb]
theorem qt {α:Type} (el:M α):∀(n:Nat) (o:List α) (s:Ps),s.bad=true→listGo el n o s=(o,s)
 |0,_,_,_=>rfl
 |n+1,o,s,h=>by rw[listGo,bad_isS h,if_neg (by simp)]
theorem ct {α:Type} {el:M α} (h:Stk el):Stk (listP el):=fun s hb=>by
 unfold listP
 rw[h s hb,qt el _ _ _ hb]
theorem nP:Stk eS:=fun s h=>by
 unfold eS
 rw[kC h,bad_isS h,if_neg (by simp)]
theorem stk_una {p:M Ex} (h:Stk p):Stk (dL p):=fun s hb=>by
 unfold dL
 rw[bad_isS hb,if_neg (by simp),h s hb]
theorem stk_pro {p:M Ex} (h:Stk p):Stk (proP p):=gG (stk_una h) _
theorem stk_sum {p:M Ex} (h:Stk p):Stk (sumP p):=gG (stk_pro h) _
theorem o4 (e:M Ex) (a:Ex):Stk (de e a):=fun s hb=>by
 unfold de
 rw[gF _ s hb,bad_isS hb,bad_opt hb]
 simp only[bad_isS hb]
 simp
theorem o5 {p:M Ex} (h:Stk p):Stk (testP p):=fun s hb=>by
 unfold testP
 rw[stk_sum h s hb,o4 _ _ s hb]
theorem stk_notGo {p:M Ex} (h:Stk p):∀n,Stk (notGo p n)
 |0=>o5 h
 |n+1=>fun s hb=>by
  rw[notGo,bad_isS hb,if_neg (by simp)]
  exact o5 h s hb
theorem stk_not {p:M Ex} (h:Stk p):Stk (notP p):=fun s hb=>stk_notGo h _ s hb
theorem stk_or {p:M Ex} (h:Stk p):Stk (orP p):=gG (gG (stk_not h) _) _
theorem o6 (rec:M Ex):Stk (aD rec):=fun s hb=>by
 unfold aD
 simp only[la hb,bad_isS hb]
 simpa using nP s hb
theorem o7:∀n,Stk (exprP n)
 |0=>fun _ _=>rfl
 |n+1=>stk_or (o6 _)
theorem af {α β:Type} {m:M α} {f:α→M β} (h:Stk m) (hf:∀a,Stk (f a)):Stk (aA m f):=fun s hb=>by
 unfold aA
 rw[h s hb]
 exact hf _ s hb
theorem ai {α:Type} (a:α):Stk (aY a):=fun s _=>rfl
theorem az (t:ByteArray):Stk (aU t):=fun s hb=>fY hb t
theorem bp {α:Type} (t:ByteArray) (m:M α) {n:M α} (h:Stk n):Stk (ifM t m n):=fun s hb=>by
 unfold ifM
 rw[bad_isS hb,if_neg (by simp)]
 exact h s hb
theorem stk_fst {α:Type} (ops:List (ByteArray×Int)) (f:Int→M α) {m:M α} (h:Stk m):Stk (fstM ops f m):=fun s hb=>by
 unfold fstM
 rw[gF ops s hb]
 exact h s hb
theorem dW:Stk namesP:=af (az _) fun _=>af (ct (cN 1)) fun _=>af (az _) fun _=>ai _
theorem o8:Stk fd:=bp _ _ nO
theorem stk_typ:Stk typP:=bp _ _ (af (az _) fun _=>bp _ _ (ai _))
theorem stk_def:Stk fQ:=af (cN 1) fun _=>af stk_typ fun _=>bp _ _ (ai _)
theorem stk_ref:Stk refP:=af dW fun _=>af (az _) fun _=>af (cN 1) fun _=>af dW fun _=>ai _
theorem stk_src:Stk srcP:=af (cN 1) fun _=>bp _ _ (ai _)
theorem stk_ord {p:M Int} (h:Stk p):Stk (hU p):=af h fun _=>bp _ _ (bp _ _ (ai _))
theorem kD:Stk grpP:=bp _ _ (ai _)
theorem fZ (p:M Int):Stk (fW p):=bp _ _ (ai _)
theorem gH (p:M Int):Stk (limP p):=bp _ _ (ai _)
theorem stk_elem (ex:M Ex) (d:Df) (l:List ByteArray):Stk (elemP ex d l):=bp _ _ (bp _ _ (bp _ _ (bp _ _ (af stk_def fun _=>ai _))))
theorem io (ex:M Ex):∀(n:Nat) (d:Df) (l:List ByteArray),Stk (cr ex n d l)
 |0,_,_=>ai _
 |_+1,_,_=>bp _ _ (ai _)
theorem jH (ex:M Ex):Stk (dv ex):=fun s hb=>af (stk_elem ex _ _) (fun x=>io ex (s.r.length+1) x.1 x.2) s hb
theorem kE {ex:M Ex} (h:Stk ex):Stk (tupP ex):=af (az _) fun _=>af (ct h) fun _=>af (az _) fun _=>ai _
theorem iZ (ex:M Ex):Stk (whrP ex):=bp _ _ (ai _)
theorem nQ {ex:M Ex} (h:Stk ex):Stk (asgP ex):=af (cN 1) fun _=>af (az _) fun _=>af h fun _=>ai _
theorem o9 {ex:M Ex} (h:Stk ex) (o:Int):Stk (itm1 ex o):=af h fun _=>af (az _) fun _=>ai _
theorem stk_itm {ex:M Ex} (h:Stk ex):Stk (fX ex):=stk_fst _ _ (af h fun _=>ai _)
theorem dy (ex:M Ex):∀(n:Nat) (l:List Src) (c:List Ex),Stk (fromGo ex n l c)
 |0,_,_=>ai _
 |_+1,_,_=>bp _ _ (bp _ _ (ai _))
theorem pa (ex:M Ex):Stk (fromP ex):=fun s hb=>af stk_src (fun x=>dy ex (s.r.length+1) [x] []) s hb
theorem lb (ex:M Ex) (k:List Ex→Ex) (c:List Ex):Stk (fM ex k c):=bp _ _ (ai _)
section
variable {a b:M Ex} (h:Sim a b) (ha:Stk a) (hb:Stk b)
include h ha hb
end
end
section
open Lx (Tk)
def Fwd {α:Type} (m:M α):Prop:=∀s,(m s).2.r.length≤s.r.length
theorem next_len (s:Ps):s.next.r.length≤s.r.length:=by simp[Ps.next]
theorem cu {t:ByteArray} {s:Ps} (h:isS t s=true):s.bad=false∧∃a l,s.r=a::l∧(a.kind=2∨a.kind=5)∧tkB a=t∧s.next=⟨l,false⟩:=by
 obtain⟨r,b⟩:=s
 cases r with
 |nil=>simp[isS,Ps.hd]at h
 |cons a l=>
  simp only[isS,Ps.hd,List.headD_cons,Bool.and_eq_true,Bool.not_eq_true',Bool.or_eq_true,beq_iff_eq,decide_eq_true_eq]at h
  exact⟨h.1,a,l,rfl,h.2.1,of_decide_eq_true h.2.2,by simp[Ps.next,h.1]⟩
theorem ay {t:ByteArray} {s:Ps} (h:isS t s=true):s.next.r.length+1=s.r.length:=by
 obtain⟨_,a,l,e,_,_,g⟩:=cu h
 rw[e,g]
 simp
theorem gI {k:Nat} (e:k≠0) {s:Ps} (h:hasK k s=true):s.bad=false∧∃a l,s.r=a::l∧a.kind=k∧s.next=⟨l,false⟩:=by
 obtain⟨r,b⟩:=s
 cases r with
 |nil=>simp[hasK,Ps.hd]at h;omega
 |cons a l=>
  simp only[hasK,Ps.hd,List.headD_cons,Bool.and_eq_true,Bool.not_eq_true',beq_iff_eq]at h
  exact⟨h.1,a,l,rfl,h.2,by simp[Ps.next,h.1]⟩
theorem fwd_tak (k:Nat):Fwd (takP k):=fun s=>by
 unfold takP
 split
 ·exact next_len s
 ·exact Nat.le_refl _
theorem aF (t:ByteArray) (s:Ps):(needP t s).r.length≤s.r.length:=by
 unfold needP
 split
 ·exact next_len s
 ·exact Nat.le_refl _
theorem opt_len (t:ByteArray) (s:Ps):(optP t s).r.length≤s.r.length:=by
 unfold optP
 split
 ·exact next_len s
 ·exact Nat.le_refl _
theorem gJ:Fwd numP:=fun s=>fwd_tak 3 s
theorem fwd_pos:Fwd posP:=fun s=>by
 unfold posP
 split
 ·exact gJ s.fail
 ·exact gJ s
theorem gK (l:List (ByteArray×Int)):∀s:Ps,(firstP l s).2.r.length≤s.r.length∧((firstP l s).1.isSome=true→(firstP l s).2.r.length+1=s.r.length):=by
 induction l with
 |nil=>intro s;exact⟨Nat.le_refl _,fun h=>by simp[firstP]at h⟩
 |cons a l ih=>
  intro s
  rw[firstP]
  split
  ·next h=>exact⟨next_len s,fun _=>ay h⟩
  ·exact ih s
theorem ip {l:List (ByteArray×Int)} {s:Ps} {o:Int} (h:(firstP l s).1=some o):(firstP l s).2.r.length+1=s.r.length:=(gK l s).2 (by rw[h];rfl)
theorem lc:∀(l:List (ByteArray×Int)) (s:Ps),(firstP l s).1=none→(firstP l s).2=s
 | [],_,_=>rfl
 |(t,o)::l,s,h=>by
  rw[firstP]at h ⊢
  split at h
  ·cases h
  ·next h2=>rw[if_neg h2];exact lc l s h
theorem ke {el:M Ex} (h:Fwd el) (ops:List (ByteArray×Int)):∀(n:Nat) (e:Ex),Fwd (aX el ops n e)
 |0,_=>fun _=>Nat.le_refl _
 |n+1,e=>fun s=>by
  rw[aX]
  split
  ·exact Nat.le_refl _
  ·exact Nat.le_trans (ke h ops n _ _) (Nat.le_trans (h _) (gK ops s).1)
theorem dX {el:M Ex} (h:Fwd el) (ops:List (ByteArray×Int)):Fwd (chainP el ops):=fun s=>Nat.le_trans (ke h ops _ _ _) (h s)
theorem ld {α:Type} {el:M α} (h:Fwd el):∀(n:Nat) (o:List α),Fwd (listGo el n o)
 |0,_=>fun _=>Nat.le_refl _
 |n+1,o=>fun s=>by
  rw[listGo]
  split
  ·exact Nat.le_trans (ld h n _ _) (Nat.le_trans (h _) (next_len s))
  ·exact Nat.le_refl _
theorem fwd_list {α:Type} {el:M α} (h:Fwd el):Fwd (listP el):=fun s=>Nat.le_trans (ld h _ _ _) (h s)
theorem ar {α β:Type} {m:M α} {f:α→M β} (h:Fwd m) (hf:∀a,Fwd (f a)):Fwd (aA m f):=fun s=>Nat.le_trans (hf _ _) (h s)
theorem aH {α:Type} (a:α):Fwd (aY a):=fun _=>Nat.le_refl _
theorem aN (t:ByteArray):Fwd (aU t):=fun s=>aF t s
theorem cF {α:Type} (t:ByteArray) {m n:M α} (e:Fwd m) (g:Fwd n):Fwd (ifM t m n):=fun s=>by
 unfold ifM
 split
 ·exact Nat.le_trans (e _) (next_len s)
 ·exact g s
theorem fwd_fst {α:Type} (ops:List (ByteArray×Int)) {f:Int→M α} {m:M α} (e:∀o,Fwd (f o)) (g:Fwd m):Fwd (fstM ops f m):=fun s=>by
 unfold fstM
 split
 ·exact Nat.le_trans (e _ _) (gK ops s).1
 ·exact g s
theorem fwd_col:Fwd eS:=fun s=>by
 unfold eS
 split
 ·exact Nat.le_trans (fwd_tak 1 _) (Nat.le_trans (next_len _) (fwd_tak 1 s))
 ·exact fwd_tak 1 s
theorem i6 {p:M Ex} (h:Fwd p):Fwd (dL p):=fun s=>by
 unfold dL
 split
 ·exact Nat.le_trans (h _) (next_len s)
 ·exact h s
theorem fy {p:M Ex} (h:Fwd p):Fwd (sumP p):=dX (dX (i6 h) _) _
theorem pb {p:M Ex} (h:Fwd p) (a:Ex):∀(n:Nat) (e:Ex),Fwd (hJ p a n e)
 |0,_=>fun _=>Nat.le_refl _
 |n+1,e=>fun s=>by
  rw[hJ]
  split
  ·exact Nat.le_trans (pb h a n _ _) (Nat.le_trans (h _) (next_len s))
  ·exact Nat.le_refl _
theorem fwd_tail {p:M Ex} (h:Fwd p) (a:Ex):Fwd (de p a):=fun s=>by
 have k:(optP kNOT s).next.r.length≤s.r.length:=Nat.le_trans (next_len _) (opt_len _ _)
 unfold de
 split
 ·exact Nat.le_trans (h _) (gK _ s).1
 split
 ·exact Nat.le_trans (aF _ _) (Nat.le_trans (opt_len _ _) (next_len s))
 split
 ·exact Nat.le_trans (fwd_tak 4 _) k
 split
 ·exact Nat.le_trans (h _) (Nat.le_trans (aF _ _) (Nat.le_trans (h _) k))
 split
 ·exact Nat.le_trans (aF _ _) (Nat.le_trans (pb h _ _ _ _) (Nat.le_trans (h _) (Nat.le_trans (aF _ _) k)))
 ·simp only
  split
  ·exact opt_len _ _
  ·exact Nat.le_refl _
theorem lf {p:M Ex} (h:Fwd p):Fwd (testP p):=fun s=>Nat.le_trans (fwd_tail (fy h) _ _) (fy h s)
theorem gL {p:M Ex} (h:Fwd p):∀n,Fwd (notGo p n)
 |0=>lf h
 |n+1=>fun s=>by
  rw[notGo]
  split
  ·exact Nat.le_trans (gL h n _) (next_len s)
  ·exact lf h s
theorem kF {p:M Ex} (h:Fwd p):Fwd (andP p):=dX (fun s=>gL h _ s) _
theorem fwd_or {p:M Ex} (h:Fwd p):Fwd (orP p):=dX (kF h) _
theorem ff {p:M Ex} (h:Fwd p):Fwd (aD p):=fun s=>by
 unfold aD
 split
 ·exact gJ s
 split
 ·exact fwd_tak 4 s
 split
 ·exact next_len s
 split
 ·exact Nat.le_trans (aF _ _) (Nat.le_trans (h _) (Nat.le_trans (aF _ _) (next_len s)))
 split
 ·exact Nat.le_trans (aF _ _) (Nat.le_trans (h _) (next_len s))
 ·exact fwd_col s
theorem cK:∀n,Fwd (exprP n)
 |0=>fun _=>Nat.le_refl _
 |n+1=>fwd_or (ff (cK n))
def Nz (m:M Ex):Prop:=∀s,(m s).1.d.op≠0
theorem gM:∀(l:List (ByteArray×Int)) (s:Ps) (o:Int),(firstP l s).1=some o→∃t,(t,o)∈l
 | [],_,_,h=>by simp[firstP]at h
 |(t,k)::l,s,o,h=>by
  rw[firstP]at h
  split at h
  ·simp at h;subst h;exact⟨t,List.mem_cons_self ..⟩
  ·obtain⟨u,e⟩:=gM l s o h
   exact⟨u,List.mem_cons_of_mem _ e⟩
section
variable {a b:M Ex} (h:Sim a b) (ha:Stk a) (hb:Stk b) (hz:Nz b)
include h ha hb hz
end
def mR (stm:M St) (vld:St→Int):Nat→List St→Ps→(Nat×Int) ⊕ List St
 |0,out,_=> .inr out
 |n+1,out,s=>
  if s.hd.kind=0 then .inr out
  else if (needP iY (stm s).2).bad=true then .inl ((needP iY (stm s).2).hd.pos,2)
  else if vld (stm s).1≠0 then .inl (s.hd.pos,vld (stm s).1)
  else mR stm vld n (out++ [(stm s).1]) (needP iY (stm s).2)
end
section
open Lx (Tk)
structure Kp (f:Tk→Tk):Prop where
 kd:∀a,(f a).kind=a.kind
 tx:∀a,(f a).text=a.text
def Ps.mp (f:Tk→Tk) (s:Ps):Ps:=⟨s.r.map f,s.bad⟩
def Sfx (s t:Ps):Prop:=∃A,s.r=A++t.r∧∀a∈A,a.kind≠0
theorem Sfx.refl (s:Ps):Sfx s s:=⟨[],rfl,by simp⟩
theorem Sfx.trans {a b c:Ps} (h:Sfx a b) (k:Sfx b c):Sfx a c:=by
 obtain⟨A,e,g⟩:=h
 obtain⟨B,i,j⟩:=k
 exact⟨A++B,by rw[e,i,List.append_assoc],fun a ha=> (List.mem_append.1 ha).elim (g a) (j a)⟩
theorem Sfx.next {t:ByteArray} {s:Ps} (h:isS t s=true):Sfx s s.next:=by
 obtain⟨_,a,l,e,i,_,g⟩:=cu h
 exact⟨[a],by rw[e,g];rfl,fun b hb=>by rw[List.mem_singleton.1 hb];omega⟩
theorem Sfx.nextk {k:Nat} (i:k≠0) {s:Ps} (h:hasK k s=true):Sfx s s.next:=by
 obtain⟨_,a,l,e,j,g⟩:=gI i h
 exact⟨[a],by rw[e,g];rfl,fun b hb=>by rw[List.mem_singleton.1 hb];omega⟩
theorem Sfx.fail (s:Ps):Sfx s s.fail:=Sfx.refl s
theorem sfx_need (t:ByteArray) (s:Ps):Sfx s (needP t s):=by
 unfold needP
 split
 ·next h=>exact Sfx.next h
 ·exact Sfx.fail s
theorem sfx_opt (t:ByteArray) (s:Ps):Sfx s (optP t s):=by
 unfold optP
 split
 ·next h=>exact Sfx.next h
 ·exact Sfx.refl s
section
variable {f:Tk→Tk} (hf:Kp f)
include hf
theorem ej (t:ByteArray) (s:Ps):isS t (s.mp f)=isS t s:=by
 unfold isS Ps.mp Ps.hd tkB
 cases s.r with
 |nil=>rfl
 |cons a l=>simp[hf.kd,hf.tx]
theorem nR (k:Nat) (s:Ps):hasK k (s.mp f)=hasK k s:=by
 unfold hasK Ps.mp Ps.hd
 cases s.r with
 |nil=>rfl
 |cons a l=>simp[hf.kd]
theorem mp_hd (s:Ps):tkB (s.mp f).hd=tkB s.hd:=by
 unfold Ps.mp Ps.hd tkB
 cases s.r with
 |nil=>rfl
 |cons a l=>simp[hf.tx]
omit hf in
theorem cO (s:Ps):(s.mp f).next=s.next.mp f:=by simp[Ps.mp,Ps.next]
omit hf in
theorem mp_fail (s:Ps):(s.mp f).fail=s.fail.mp f:=rfl
omit hf in
theorem jI (s:Ps):(s.mp f).r.length=s.r.length:=by simp[Ps.mp]
theorem mp_need (t:ByteArray) (s:Ps):needP t (s.mp f)=(needP t s).mp f:=by
 unfold needP
 rw[ej hf]
 split
 ·exact cO s
 ·rfl
theorem mp_opt (t:ByteArray) (s:Ps):optP t (s.mp f)=(optP t s).mp f:=by
 unfold optP
 rw[ej hf]
 split
 ·exact cO s
 ·rfl
theorem i7:∀(l:List (ByteArray×Int)) (s:Ps),firstP l (s.mp f)=((firstP l s).1,(firstP l s).2.mp f)
 | [],_=>rfl
 |(t,o)::l,s=>by
  rw[firstP,firstP,ej hf]
  split
  ·rw[cO]
  ·exact i7 l s
end
theorem gN:∀(l:List (ByteArray×Int)) (s:Ps),Sfx s (firstP l s).2
 | [],s=>Sfx.refl s
 |(t,o)::l,s=>by
  rw[firstP]
  split
  ·next h=>exact Sfx.next h
  ·exact gN l s
structure Rdy {α:Type} (m:M α):Prop where
 sfx:∀s,Sfx s (m s).2
 mp:∀ {f:Tk→Tk},Kp f→∀s:Ps,m (s.mp f)=((m s).1,(m s).2.mp f)
theorem rdy_tak {k:Nat} (e:k≠0):Rdy (takP k):=⟨fun s=>by
 unfold takP
 split
 ·next h=>exact Sfx.nextk e h
 ·exact Sfx.fail s,fun hf s=>by
 unfold takP
 rw[nR hf,mp_hd hf,cO,mp_fail]
 split<;>rfl⟩
theorem rdy_num:Rdy numP:=⟨fun s=> (rdy_tak (by omega)).sfx s,fun hf s=>by unfold numP;rw[(rdy_tak (by omega)).mp hf]⟩
theorem nS:Rdy posP:=⟨fun s=>by
 unfold posP
 split
 ·exact rdy_num.sfx s.fail
 ·exact rdy_num.sfx s,fun hf s=>by
 unfold posP
 rw[nR hf,mp_hd hf]
 split
 ·exact rdy_num.mp hf s.fail
 ·exact rdy_num.mp hf s⟩
theorem eJ {el:M Ex} (h:Rdy el) (ops:List (ByteArray×Int)):∀(n:Nat) (e:Ex),Rdy (aX el ops n e)
 |0,_=>⟨fun s=>Sfx.refl s,fun _ _=>rfl⟩
 |n+1,e=>⟨fun s=>by
  rw[aX]
  split
  ·exact Sfx.refl s
  ·exact(gN ops s).trans ((h.sfx _).trans ((eJ h ops n _).sfx _)),fun hf s=>by
  rw[aX,aX,i7 hf]
  cases (firstP ops s).1 with
  |none=>rfl
  |some o=>
   simp only
   rw[h.mp hf]
   exact(eJ h ops n _).mp hf _⟩
theorem gO {el:M Ex} (h:Rdy el) (ops:List (ByteArray×Int)):Rdy (chainP el ops):=⟨fun s=> (h.sfx s).trans ((eJ h ops _ _).sfx _),fun hf s=>by
 unfold chainP
 rw[jI,h.mp hf]
 exact(eJ h ops _ _).mp hf _⟩
theorem rdy_listGo {α:Type} {el:M α} (h:Rdy el):∀(n:Nat) (o:List α),Rdy (listGo el n o)
 |0,_=>⟨fun s=>Sfx.refl s,fun _ _=>rfl⟩
 |n+1,o=>⟨fun s=>by
  rw[listGo]
  split
  ·next hc=>exact(Sfx.next hc).trans ((h.sfx _).trans ((rdy_listGo h n _).sfx _))
  ·exact Sfx.refl s,fun hf s=>by
  rw[listGo,listGo,ej hf]
  split
  ·rw[cO,h.mp hf]
   exact(rdy_listGo h n _).mp hf _
  ·rfl⟩
theorem pc {α:Type} {el:M α} (h:Rdy el):Rdy (listP el):=⟨fun s=> (h.sfx s).trans ((rdy_listGo h _ _).sfx _),fun hf s=>by
 unfold listP
 rw[jI,h.mp hf]
 exact(rdy_listGo h _ _).mp hf _⟩
theorem aQ {α β:Type} {m:M α} {f:α→M β} (h:Rdy m) (k:∀a,Rdy (f a)):Rdy (aA m f):=⟨fun s=> (h.sfx s).trans ((k _).sfx _),fun hf s=>by
 unfold aA
 rw[h.mp hf]
 exact(k _).mp hf _⟩
theorem bg {α:Type} (a:α):Rdy (aY a):=⟨fun s=>Sfx.refl s,fun _ _=>rfl⟩
theorem bT (t:ByteArray):Rdy (aU t):=⟨fun s=>sfx_need t s,fun hf s=>by unfold aU;rw[mp_need hf]⟩
theorem cy {α:Type} (t:ByteArray) {m n:M α} (e:Rdy m) (g:Rdy n):Rdy (ifM t m n):=⟨fun s=>by
 unfold ifM
 split
 ·next hc=>exact(Sfx.next hc).trans (e.sfx _)
 ·exact g.sfx s,fun hf s=>by
 unfold ifM
 rw[ej hf]
 split
 ·rw[cO];exact e.mp hf _
 ·exact g.mp hf _⟩
theorem rdy_fst {α:Type} (ops:List (ByteArray×Int)) {f:Int→M α} {m:M α} (e:∀o,Rdy (f o)) (g:Rdy m):Rdy (fstM ops f m):=⟨fun s=>by
 unfold fstM
 split
 ·exact(gN ops s).trans ((e _).sfx _)
 ·exact g.sfx s,fun hf s=>by
 unfold fstM
 rw[i7 hf]
 cases (firstP ops s).1 with
 |none=>exact g.mp hf _
 |some o=>exact(e o).mp hf _⟩
theorem rdy_col:Rdy eS:=⟨fun s=>by
 have e:=(rdy_tak (k:=1) (by omega)).sfx
 unfold eS
 split
 ·next hc=>exact(e s).trans ((Sfx.next hc).trans (e _))
 ·exact e s,fun hf s=>by
 have e:=fun s=> (rdy_tak (k:=1) (by omega)).mp hf s
 unfold eS
 rw[e,ej hf]
 split
 ·rw[cO,e]
 ·rfl⟩
section
variable {p:M Ex} (h:Rdy p)
include h
theorem rdy_una:Rdy (dL p):=⟨fun s=>by
 unfold dL
 split
 ·next hc=>exact(Sfx.next hc).trans (h.sfx _)
 ·exact h.sfx s,fun hf s=>by
 unfold dL
 rw[ej hf]
 split
 ·rw[cO,h.mp hf]
 ·exact h.mp hf s⟩
theorem kG:Rdy (sumP p):=gO (gO (rdy_una h) _) _
theorem rdy_inGo (a:Ex):∀(n:Nat) (e:Ex),Rdy (hJ p a n e)
 |0,_=>⟨fun s=>Sfx.refl s,fun _ _=>rfl⟩
 |n+1,e=>⟨fun s=>by
  rw[hJ]
  split
  ·next hc=>exact(Sfx.next hc).trans ((h.sfx _).trans ((rdy_inGo a n _).sfx _))
  ·exact Sfx.refl s,fun hf s=>by
  rw[hJ,hJ,ej hf]
  split
  ·rw[cO,h.mp hf]
   exact(rdy_inGo a n _).mp hf _
  ·rfl⟩
theorem rdy_in (a:Ex):Rdy (inP p a):=⟨fun s=> (h.sfx s).trans ((rdy_inGo h a _ _).sfx _),fun hf s=>by
 unfold inP
 rw[jI,h.mp hf]
 exact(rdy_inGo h a _ _).mp hf _⟩
theorem pd (a:Ex):Rdy (de p a):=⟨fun s=>by
 unfold de
 split
 ·exact(gN _ s).trans (h.sfx _)
 split
 ·next hc=>exact(Sfx.next hc).trans ((sfx_opt _ _).trans (sfx_need _ _))
 split
 ·next hc=>exact(sfx_opt _ _).trans ((Sfx.next hc).trans ((rdy_tak (by omega)).sfx _))
 split
 ·next hc=>exact(sfx_opt _ _).trans ((Sfx.next hc).trans ((h.sfx _).trans ((sfx_need _ _).trans (h.sfx _))))
 split
 ·next hc=>exact(sfx_opt _ _).trans ((Sfx.next hc).trans ((sfx_need _ _).trans (((rdy_in h a).sfx _).trans (sfx_need _ _))))
 ·simp only
  split
  ·exact(sfx_opt _ _).trans (Sfx.fail _)
  ·exact Sfx.refl s,fun hf s=>by
 unfold de
 rw[i7 hf]
 cases (firstP opsCmp s).1 with
 |some o=>simp only;rw[h.mp hf]
 |none=>
  have e:=fun s=> (rdy_tak (k:=4) (by omega)).mp hf s
  simp only[ej hf,mp_opt hf,cO,mp_need hf,h.mp hf,e,(rdy_in h a).mp hf,mp_fail]
  split
  ·rfl
  split
  ·rfl
  split
  ·rfl
  split
  ·rfl
  split<;>rfl⟩
theorem lg:Rdy (testP p):=⟨fun s=> ((kG h).sfx s).trans ((pd (kG h) _).sfx _),fun hf s=>by
 unfold testP
 rw[(kG h).mp hf]
 exact(pd (kG h) _).mp hf _⟩
theorem rdy_notGo:∀n,Rdy (notGo p n)
 |0=>lg h
 |n+1=>⟨fun s=>by
  rw[notGo]
  split
  ·next hc=>exact(Sfx.next hc).trans ((rdy_notGo n).sfx _)
  ·exact(lg h).sfx s,fun hf s=>by
  rw[notGo,notGo,ej hf]
  split
  ·rw[cO,(rdy_notGo n).mp hf]
  ·exact(lg h).mp hf s⟩
theorem rdy_not:Rdy (notP p):=⟨fun s=> (rdy_notGo h _).sfx s,fun hf s=>by
 unfold notP
 rw[jI]
 exact(rdy_notGo h _).mp hf s⟩
theorem rdy_or:Rdy (orP p):=gO (gO (rdy_not h) _) _
theorem rdy_prim:Rdy (aD p):=⟨fun s=>by
 unfold aD
 split
 ·exact rdy_num.sfx s
 split
 ·exact(rdy_tak (by omega)).sfx s
 split
 ·next hc=>exact Sfx.next hc
 split
 ·next hc=>exact(Sfx.next hc).trans ((sfx_need _ _).trans ((h.sfx _).trans (sfx_need _ _)))
 split
 ·next hc=>exact(Sfx.next hc).trans ((h.sfx _).trans (sfx_need _ _))
 ·exact rdy_col.sfx s,fun hf s=>by
 have e:=fun s=> (rdy_tak (k:=4) (by omega)).mp hf s
 unfold aD
 simp only[ej hf,nR hf,cO,mp_need hf,h.mp hf,e,rdy_num.mp hf,rdy_col.mp hf]
 split
 ·rfl
 split
 ·rfl
 split
 ·rfl
 split
 ·rfl
 split<;>rfl⟩
end
theorem lh:∀n,Rdy (exprP n)
 |0=>⟨fun s=>Sfx.refl s,fun _ _=>rfl⟩
 |n+1=>rdy_or (rdy_prim (lh n))
theorem li {ex:M Ex} (h:Rdy ex) (d:Df) (l:List ByteArray):Rdy (elemP ex d l):=by
 unfold elemP namesP refP fQ namesP typP bnd2P maxP fd
 repeat' first
  |exact h
  |exact rdy_tak (by omega)
  |exact rdy_num
  |exact bg _
  |exact bT _
  |apply pc
  |apply cy
  |apply aQ
  |intro _
theorem iq {ex:M Ex} (h:Rdy ex):∀(n:Nat) (d:Df) (l:List ByteArray),Rdy (cr ex n d l)
 |0,_,_=>bg _
 |n+1,d,l=>cy _ (aQ (li h d l) fun x=>iq h n x.1 x.2) (bg _)
theorem rdy_elems {ex:M Ex} (h:Rdy ex):Rdy (dv ex):=⟨fun s=> (aQ (li h ⟨[],[],[],[]⟩ []) fun x=>iq h (s.r.length+1) x.1 x.2).sfx s,fun hf s=>by
 unfold dv
 rw[jI]
 exact(aQ (li h ⟨[],[],[],[]⟩ []) fun x=>iq h (s.r.length+1) x.1 x.2).mp hf s⟩
theorem kH:Rdy srcP:=by
 unfold srcP
 repeat' first
  |exact rdy_tak (by omega)
  |exact bg _
  |apply cy
  |apply aQ
  |intro _
theorem fz {ex:M Ex} (h:Rdy ex):∀(n:Nat) (l:List Src) (c:List Ex),Rdy (fromGo ex n l c)
 |0,_,_=>bg _
 |n+1,l,c=>cy _ (aQ kH fun x=>fz h n _ _) (cy _ (aQ kH fun x=>aQ (bT _) fun _=>aQ h fun e=>fz h n _ _) (bg _))
theorem rdy_from {ex:M Ex} (h:Rdy ex):Rdy (fromP ex):=⟨fun s=> (aQ kH fun x=>fz h (s.r.length+1) [x] []).sfx s,fun hf s=>by
 unfold fromP
 rw[jI]
 exact(aQ kH fun x=>fz h (s.r.length+1) [x] []).mp hf s⟩
theorem rdy_stmt {ex:M Ex} (h:Rdy ex) (k:List Ex→Ex):Rdy (fN ex posP k ic):=by
 have e:Rdy (fun s:Ps=> (stZ,s.fail)):=⟨fun s=>Sfx.fail s,fun _ _=>rfl⟩
 unfold fN createP fu fv fx queryP itmsP fX itm1 fM grpP fW limP tupP asgP whrP nmP ic hU
 repeat' first
  |exact h
  |exact e
  |exact rdy_tak (by omega)
  |exact rdy_num
  |exact nS
  |exact rdy_col
  |exact bg _
  |exact bT _
  |exact rdy_elems h
  |exact rdy_from h
  |apply pc
  |apply cy
  |apply rdy_fst
  |apply aQ
  |split
  |intro _
theorem rdy_stm (n:Nat):Rdy (stmP n):=rdy_stmt (lh n) _
def Ended (s:Ps):Prop:=∃A z,s.r=A++ [z]∧z.kind=0∧∀a∈A,a.kind≠0
theorem Ended.hd {s:Ps} (h:Ended s):s.hd∈s.r:=by
 obtain⟨A,z,e,_⟩:=h
 unfold Ps.hd
 cases g:s.r with
 |nil=>rw[g]at e;simp at e
 |cons a l=>simp
end
section
open Lx (Tk isDigit isLetter inWord spanN isPrint)
def parS (vld:St→Int) (s:ByteArray):St×Int×Int:=
 match Lx.tokAll s with
 | .bad a e=> (stZ,(a:Int),(e:Int))
 | .ok L=>
  match jG (stmP (L.length+1)) L with
  | .inl a=> (stZ,(a:Int),2)
  | .inr x=>if vld x=0 then (x,0,0)else (stZ,((⟨L,false⟩:Ps).hd.pos:Int),vld x)
def parE (vld:Ex→Int) (s:ByteArray):Ex×Int×Int:=
 match Lx.tokAll s with
 | .bad a e=> (exZ,(a:Int),(e:Int))
 | .ok L=>
  match jG (exprP (L.length+1)) L with
  | .inl a=> (exZ,(a:Int),2)
  | .inr x=>if vld x=0 then (x,0,0)else (exZ,((⟨L,false⟩:Ps).hd.pos:Int),vld x)
end
end Go.Proofs.YtjigcpfjhfoheaaGreatDoor
