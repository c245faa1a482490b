/- The parser as plain functions on a list of tokens; no program in sight; The reference's reader as plain functions; it reads as the parser does; Readers never go back; statements; the reference reads as the parser does; Readers loo. -/
import Derived.Test.YtjigcpfjhfoheaaGreatDoorEaa
import Derived.Test.YtjigcpfjhfoheaaGreatDoorEab
namespace Go.Proofs.YtjigcpfjhfoheaaGreatDoor
open Go.RowKit
set_option maxHeartbeats 1000000
set_option maxRecDepth 100000
set_option linter.unusedVariables false
set_option linter.unusedSimpArgs false
section
open Lx (Tk)
structure Ps where
 r:List Tk
 bad:Bool
def Ps.hd (s:Ps):Tk:=s.r.headD ⟨0,[],0⟩
def Ps.next (s:Ps):Ps:=⟨s.r.tail,s.bad⟩
def Ps.fail (s:Ps):Ps:=⟨s.r,true⟩
def tkB (t:Tk):ByteArray:=⟨t.text.toArray⟩
abbrev M (α:Type):=Ps→α×Ps
def isS (t:ByteArray) (s:Ps):Bool:=!s.bad&& ((s.hd.kind==2||s.hd.kind==5) &&decide (tkB s.hd=t))
def accP (t:ByteArray):M Bool:=fun s=> (isS t s,if isS t s then s.next else s)
def needP (t:ByteArray) (s:Ps):Ps:=if isS t s then s.next else s.fail
def hasK (k:Nat) (s:Ps):Bool:=!s.bad&&s.hd.kind==k
def takP (k:Nat):M ByteArray:=fun s=>if hasK k s then (tkB s.hd,s.next)else (⟨#[]⟩,s.fail)
def digV (b:ByteArray):Int:=(Lx.digVal b.data.toList:Nat)
def numP:M Int:=fun s=> (digV (takP 3 s).1,(takP 3 s).2)
def posP:M Int:=fun s=>numP (if hasK 3 s&&digV (tkB s.hd)==0 then s.fail else s)
def opE (o:Int) (ks:List Ex):Ex:= .mk ⟨o,⟨#[]⟩,⟨#[]⟩,0,0,0,⟨#[]⟩⟩ ks
def litE (k i:Int) (t:ByteArray):Ex:= .mk ⟨1,⟨#[]⟩,⟨#[]⟩,0,k,i,t⟩ []
def colE (t n:ByteArray):Ex:= .mk ⟨2,t,n,0,0,0,⟨#[]⟩⟩ []
abbrev kAND:ByteArray:=⟨#[65,78,68]⟩
abbrev kNOT:ByteArray:=⟨#[78,79,84]⟩
abbrev kIS:ByteArray:=⟨#[73,83]⟩
abbrev kNULL:ByteArray:=⟨#[78,85,76,76]⟩
abbrev kLIKE:ByteArray:=⟨#[76,73,75,69]⟩
abbrev kBETWEEN:ByteArray:=⟨#[66,69,84,87,69,69,78]⟩
abbrev kIN:ByteArray:=⟨#[73,78]⟩
abbrev kLENGTH:ByteArray:=⟨#[76,69,78,71,84,72]⟩
abbrev kCREATE:ByteArray:=⟨#[67,82,69,65,84,69]⟩
abbrev kTABLE:ByteArray:=⟨#[84,65,66,76,69]⟩
abbrev kINSERT:ByteArray:=⟨#[73,78,83,69,82,84]⟩
abbrev kINTO:ByteArray:=⟨#[73,78,84,79]⟩
abbrev kVALUES:ByteArray:=⟨#[86,65,76,85,69,83]⟩
abbrev kUPDATE:ByteArray:=⟨#[85,80,68,65,84,69]⟩
abbrev kSET:ByteArray:=⟨#[83,69,84]⟩
abbrev kDELETE:ByteArray:=⟨#[68,69,76,69,84,69]⟩
abbrev kFROM:ByteArray:=⟨#[70,82,79,77]⟩
abbrev kSELECT:ByteArray:=⟨#[83,69,76,69,67,84]⟩
abbrev kBEGIN:ByteArray:=⟨#[66,69,71,73,78]⟩
abbrev kCOMMIT:ByteArray:=⟨#[67,79,77,77,73,84]⟩
abbrev kROLLBACK:ByteArray:=⟨#[82,79,76,76,66,65,67,75]⟩
abbrev kTO:ByteArray:=⟨#[84,79]⟩
abbrev kSAVEPOINT:ByteArray:=⟨#[83,65,86,69,80,79,73,78,84]⟩
abbrev kRELEASE:ByteArray:=⟨#[82,69,76,69,65,83,69]⟩
abbrev kWHERE:ByteArray:=⟨#[87,72,69,82,69]⟩
abbrev kPRIMARY:ByteArray:=⟨#[80,82,73,77,65,82,89]⟩
abbrev kKEY:ByteArray:=⟨#[75,69,89]⟩
abbrev kUNIQUE:ByteArray:=⟨#[85,78,73,81,85,69]⟩
abbrev kCHECK:ByteArray:=⟨#[67,72,69,67,75]⟩
abbrev kFOREIGN:ByteArray:=⟨#[70,79,82,69,73,71,78]⟩
abbrev kREFERENCES:ByteArray:=⟨#[82,69,70,69,82,69,78,67,69,83]⟩
abbrev kINTEGER:ByteArray:=⟨#[73,78,84,69,71,69,82]⟩
abbrev kTEXT:ByteArray:=⟨#[84,69,88,84]⟩
abbrev kJOIN:ByteArray:=⟨#[74,79,73,78]⟩
abbrev kON:ByteArray:=⟨#[79,78]⟩
abbrev kGROUP:ByteArray:=⟨#[71,82,79,85,80]⟩
abbrev kBY:ByteArray:=⟨#[66,89]⟩
abbrev kORDER:ByteArray:=⟨#[79,82,68,69,82]⟩
abbrev kLIMIT:ByteArray:=⟨#[76,73,77,73,84]⟩
abbrev kAS:ByteArray:=⟨#[65,83]⟩
abbrev kASC:ByteArray:=⟨#[65,83,67]⟩
abbrev kDESC:ByteArray:=⟨#[68,69,83,67]⟩
abbrev yLp:ByteArray:=⟨#[40]⟩
abbrev yRp:ByteArray:=⟨#[41]⟩
abbrev yCm:ByteArray:=⟨#[44]⟩
abbrev yDot:ByteArray:=⟨#[46]⟩
abbrev yStar:ByteArray:=⟨#[42]⟩
abbrev yMinus:ByteArray:=⟨#[45]⟩
abbrev yEq:ByteArray:=⟨#[61]⟩
abbrev ySemi:ByteArray:=⟨#[59]⟩
def firstP:List (ByteArray×Int)→Ps→Option Int×Ps
 | [],s=> (none,s)
 |(t,o)::l,s=>if isS t s then (some o,s.next)else firstP l s
def chainGo (el:M Ex) (ops:List (ByteArray×Int)):Nat→Ex→Ps→Ex×Ps
 |0,e,s=> (e,s)
 |n+1,e,s=>
  match (firstP ops s).1 with
  |none=> (e,s)
  |some o=>chainGo el ops n (opE o [e,(el (firstP ops s).2).1]) (el (firstP ops s).2).2
def chainP (el:M Ex) (ops:List (ByteArray×Int)):M Ex:=fun s=>chainGo el ops (s.r.length+1) (el s).1 (el s).2
def listGo {α:Type} (el:M α):Nat→List α→Ps→List α×Ps
 |0,out,s=> (out,s)
 |n+1,out,s=>if isS yCm s then listGo el n (out++ [(el s.next).1]) (el s.next).2 else (out,s)
def listP {α:Type} (el:M α):M (List α):=fun s=>listGo el (s.r.length+1) [(el s).1] (el s).2
def opsOr:List (ByteArray×Int):= [(⟨#[79,82]⟩,19)]
def opsAnd:List (ByteArray×Int):= [(⟨#[65,78,68]⟩,18)]
def opsSum:List (ByteArray×Int):= [(⟨#[43]⟩,4),(⟨#[45]⟩,5)]
def opsPro:List (ByteArray×Int):= [(⟨#[42]⟩,6),(⟨#[47]⟩,7),(⟨#[37]⟩,8)]
def opsCmp:List (ByteArray×Int):= [(⟨#[61]⟩,10),(⟨#[60,62]⟩,11),(⟨#[60]⟩,12),(⟨#[60,61]⟩,13),(⟨#[62]⟩,14),(⟨#[62,61]⟩,15)]
def opsAgg:List (ByteArray×Int):= [(⟨#[67,79,85,78,84]⟩,2),(⟨#[83,85,77]⟩,3),(⟨#[77,73,78]⟩,4),(⟨#[77,65,88]⟩,5)]
def colP:M Ex:=fun s=>
 if isS yDot (takP 1 s).2 then (colE (takP 1 s).1 (takP 1 (takP 1 s).2.next).1,(takP 1 (takP 1 s).2.next).2)
 else (colE ⟨#[]⟩ (takP 1 s).1,(takP 1 s).2)
def negE (b:Bool) (e:Ex):Ex:=if b then opE 20 [e]else e
def optP (t:ByteArray) (s:Ps):Ps:=if isS t s then s.next else s
section
variable (rec:M Ex)
def primP:M Ex:=fun s=>
 if hasK 3 s then (litE 1 (numP s).1 ⟨#[]⟩,(numP s).2)
 else if hasK 4 s then (litE 2 0 (takP 4 s).1,(takP 4 s).2)
 else if isS kNULL s then (litE 0 0 ⟨#[]⟩,s.next)
 else if isS kLENGTH s then (opE 9 [(rec (needP yLp s.next)).1],needP yRp (rec (needP yLp s.next)).2)
 else if isS yLp s then ((rec s.next).1,needP yRp (rec s.next).2)
 else colP s
def unaP (prim:M Ex):M Ex:=fun s=>if isS yMinus s then (opE 3 [(prim s.next).1],(prim s.next).2)else prim s
def proP (prim:M Ex):M Ex:=chainP (unaP prim) opsPro
def sumP (prim:M Ex):M Ex:=chainP (proP prim) opsSum
def inGo (sum:M Ex) (a:Ex):Nat→Ex→Ps→Ex×Ps
 |0,e,s=> (e,s)
 |n+1,e,s=>if isS yCm s then inGo sum a n (opE 19 [e,opE 10 [a,(sum s.next).1]]) (sum s.next).2 else (e,s)
def inP (sum:M Ex) (a:Ex):M Ex:=fun s=>inGo sum a (s.r.length+1) (opE 10 [a,(sum s).1]) (sum s).2
def tailP (sum:M Ex) (a:Ex):M Ex:=fun s=>
 match (firstP opsCmp s).1 with
 |some o=> (opE o [a,(sum (firstP opsCmp s).2).1],(sum (firstP opsCmp s).2).2)
 |none=>
  if isS kIS s then (negE (isS kNOT s.next) (opE 17 [a]),needP kNULL (optP kNOT s.next))
  else if isS kLIKE (optP kNOT s)then (negE (isS kNOT s) (opE 16 [a,litE 2 0 (takP 4 (optP kNOT s).next).1]),(takP 4 (optP kNOT s).next).2)
  else if isS kBETWEEN (optP kNOT s)then
   (negE (isS kNOT s) (opE 18 [opE 15 [a,(sum (optP kNOT s).next).1],opE 13 [a,(sum (needP kAND (sum (optP kNOT s).next).2)).1]]),(sum (needP kAND (sum (optP kNOT s).next).2)).2)
  else if isS kIN (optP kNOT s)then
   (negE (isS kNOT s) (inP sum a (needP yLp (optP kNOT s).next)).1,needP yRp (inP sum a (needP yLp (optP kNOT s).next)).2)
  else (a,if isS kNOT s then (optP kNOT s).fail else s)
def testP (prim:M Ex):M Ex:=fun s=>tailP (sumP prim) (sumP prim s).1 (sumP prim s).2
def notGo (prim:M Ex):Nat→Ps→Ex×Ps
 |0,s=>testP prim s
 |n+1,s=>if isS kNOT s then (opE 20 [(notGo prim n s.next).1],(notGo prim n s.next).2)else testP prim s
def notP (prim:M Ex):M Ex:=fun s=>notGo prim s.r.length s
def andP (prim:M Ex):M Ex:=chainP (notP prim) opsAnd
def orP (prim:M Ex):M Ex:=chainP (andP prim) opsOr
end
def exprP:Nat→M Ex
 |0=>fun s=> (colE ⟨#[]⟩ ⟨#[]⟩,s)
 |n+1=>orP (primP (exprP n))
def bndM {α β:Type} (m:M α) (f:α→M β):M β:=fun s=>f (m s).1 (m s).2
def retM {α:Type} (a:α):M α:=fun s=> (a,s)
def needM (t:ByteArray):M Unit:=fun s=> ((),needP t s)
def ifM {α:Type} (t:ByteArray) (m n:M α):M α:=fun s=>if isS t s then m s.next else n s
def fstM {α:Type} (ops:List (ByteArray×Int)) (f:Int→M α) (m:M α):M α:=fun s=>
 match (firstP ops s).1 with
 |some o=>f o (firstP ops s).2
 |none=>m s
structure Df where
 cols:List Cd
 keys:List (List ByteArray)
 frs:List Rf
 chk:List Ex
def namesP:M (List ByteArray):=bndM (needM yLp) fun _=>bndM (listP (takP 1)) fun l=>bndM (needM yRp) fun _=>retM l
def bndP:M Int:=ifM yMinus (bndM numP fun n=>retM (-n)) numP
def bnd2P:M (Int×Int×Int×Int):=bndM bndP fun a=>bndM (needM yCm) fun _=>bndM bndP fun b=>bndM (needM yRp) fun _=>retM (1,a,b,0)
def maxP:M (Int×Int×Int×Int):=bndM numP fun n=>bndM (needM yRp) fun _=>retM (2,0,0,n)
def typP:M (Int×Int×Int×Int):=
 ifM kINTEGER (ifM yLp bnd2P (retM (1,-2147483648,2147483647,0))) (bndM (needM kTEXT) fun _=>ifM yLp maxP (retM (2,0,0,16)))
def defP:M Cd:=bndM (takP 1) fun a=>bndM typP fun t=>ifM kNOT (bndM (needM kNULL) fun _=>retM ⟨a,t.1,t.2.1,t.2.2.1,t.2.2.2,true⟩) (retM ⟨a,t.1,t.2.1,t.2.2.1,t.2.2.2,false⟩)
def refP:M Rf:=bndM namesP fun a=>bndM (needM kREFERENCES) fun _=>bndM (takP 1) fun t=>bndM namesP fun b=>retM ⟨a,t,b⟩
def stZ:St:=⟨0,⟨#[]⟩,[],[],[],[],[],[],[],[],exZ,[],[],0,⟨#[]⟩⟩
def nnC (l:List ByteArray) (c:Cd):Cd:= { c with nn:=c.nn||l.contains c.nm }
def srcP:M Src:=bndM (takP 1) fun t=>ifM kAS (bndM (takP 1) fun a=>retM ⟨t,a⟩) (retM ⟨t,⟨#[]⟩⟩)
def ordP (pos:M Int):M Ord':=bndM pos fun n=>ifM kASC (retM ⟨n,false⟩) (ifM kDESC (retM ⟨n,true⟩) (retM ⟨n,false⟩))
def grpP:M (List Ex):=ifM kGROUP (bndM (needM kBY) fun _=>listP colP) (retM [])
def ordsP (pos:M Int):M (List Ord'):=ifM kORDER (bndM (needM kBY) fun _=>listP (ordP pos)) (retM [])
def limP (pos:M Int):M Int:=ifM kLIMIT pos (retM 0)
def nmP (k:Int):M St:=bndM (takP 1) fun a=>retM { stZ with kd:=k,nm:=a }
section
variable (ex:M Ex)
def elemP (d:Df) (l:List ByteArray):M (Df×List ByteArray):=
 ifM kPRIMARY (bndM (needM kKEY) fun _=>bndM namesP fun k=>retM ({ d with keys:=d.keys++ [k] },l++k))
  (ifM kUNIQUE (bndM namesP fun k=>retM ({ d with keys:=d.keys++ [k] },l))
   (ifM kCHECK (bndM (needM yLp) fun _=>bndM ex fun e=>bndM (needM yRp) fun _=>retM ({ d with chk:=d.chk++ [e] },l))
    (ifM kFOREIGN (bndM (needM kKEY) fun _=>bndM refP fun f=>retM ({ d with frs:=d.frs++ [f] },l))
     (bndM defP fun c=>retM ({ d with cols:=d.cols++ [c] },l)))))
def elemGo:Nat→Df→List ByteArray→M (Df×List ByteArray)
 |0,d,l=>retM (d,l)
 |n+1,d,l=>ifM yCm (bndM (elemP ex d l) fun x=>elemGo n x.1 x.2) (retM (d,l))
def elemsP:M (Df×List ByteArray):=fun s=>bndM (elemP ex ⟨[],[],[],[]⟩ []) (fun x=>elemGo ex (s.r.length+1) x.1 x.2) s
def createP:M St:=
 bndM (needM kTABLE) fun _=>bndM (takP 1) fun t=>bndM (needM yLp) fun _=>bndM (elemsP ex) fun x=>bndM (needM yRp) fun _=>
  retM { stZ with kd:=1,tb:=t,cols:=x.1.cols.map (nnC x.2),keys:=x.1.keys,frs:=x.1.frs,chk:=x.1.chk }
def tupP:M (List Ex):=bndM (needM yLp) fun _=>bndM (listP ex) fun l=>bndM (needM yRp) fun _=>retM l
def whrP:M Ex:=ifM kWHERE ex (retM exZ)
def asgP:M Asg:=bndM (takP 1) fun a=>bndM (needM yEq) fun _=>bndM ex fun e=>retM ⟨a,0,e⟩
def itm1 (o:Int):M Itm:=bndM ex fun e=>bndM (needM yRp) fun _=>retM ⟨o,e⟩
def itmP:M Itm:=
 fstM opsAgg (fun o=>bndM (needM yLp) fun _=>if o=2 then ifM yStar (bndM (needM yRp) fun _=>retM ⟨1,exZ⟩) (itm1 ex o)else itm1 ex o) (bndM ex fun e=>retM ⟨0,e⟩)
def fromGo:Nat→List Src→List Ex→M (List Src×List Ex)
 |0,l,c=>retM (l,c)
 |n+1,l,c=>ifM yCm (bndM srcP fun x=>fromGo n (l++ [x]) c) (ifM kJOIN (bndM srcP fun x=>bndM (needM kON) fun _=>bndM ex fun e=>fromGo n (l++ [x]) (c++ [e])) (retM (l,c)))
def fromP:M (List Src×List Ex):=fun s=>bndM srcP (fun x=>fromGo ex (s.r.length+1) [x] []) s
def andL:List Ex→Ex
 | []=>exZ
 |e::l=>l.foldl (fun a b=>opE 18 [a,b]) e
def condP (conj:List Ex→Ex) (c:List Ex):M Ex:=ifM kWHERE (bndM ex fun e=>retM (conj (c++ [e]))) (retM (conj c))
def itmsP:M (List Itm):=ifM yStar (retM []) (listP (itmP ex))
def queryP (pos:M Int) (conj:List Ex→Ex):M St:=
 bndM (itmsP ex) fun i=>bndM (needM kFROM) fun _=>bndM (fromP ex) fun f=>bndM (condP ex conj f.2) fun w=>bndM grpP fun g=>bndM (ordsP pos) fun o=>bndM (limP pos) fun l=>
  retM { stZ with kd:=5,itms:=i,frm:=f.1,whr:=w,grp:=g,ord:=o,lim:=l }
def insertP:M St:=bndM (needM kINTO) fun _=>bndM (takP 1) fun t=>bndM (needM kVALUES) fun _=>bndM (listP (tupP ex)) fun v=>retM { stZ with kd:=2,tb:=t,vals:=v }
def updateP:M St:=bndM (takP 1) fun t=>bndM (needM kSET) fun _=>bndM (listP (asgP ex)) fun v=>bndM (whrP ex) fun w=>retM { stZ with kd:=3,tb:=t,sets:=v,whr:=w }
def deleteP:M St:=bndM (needM kFROM) fun _=>bndM (takP 1) fun t=>bndM (whrP ex) fun w=>retM { stZ with kd:=4,tb:=t,whr:=w }
def stmtP (pos:M Int) (conj:List Ex→Ex) (last:M St):M St:=
 ifM kCREATE (createP ex) (ifM kINSERT (insertP ex) (ifM kUPDATE (updateP ex) (ifM kDELETE (deleteP ex) (ifM kSELECT (queryP ex pos conj)
  (ifM kBEGIN (retM { stZ with kd:=6 }) (ifM kCOMMIT (retM { stZ with kd:=7 }) (ifM kROLLBACK (ifM kTO (nmP 10) (retM { stZ with kd:=8 })) (ifM kSAVEPOINT (nmP 9) last))))))))
end
def lastP:M St:=ifM kRELEASE (nmP 11) (fun s=> (stZ,s.fail))
def endP (s:Ps):Ps:=if hasK 0 s then s else s.fail
def wholeP {α:Type} (m:M α) (l:List Tk):Nat ⊕ α:=
 if (endP (m ⟨l,false⟩).2).bad then .inl (endP (m ⟨l,false⟩).2).hd.pos else .inr (m ⟨l,false⟩).1
def stmP (n:Nat):M St:=stmtP (exprP n) posP andL lastP
end
section
open Lx (Tk)
def primR (rec:M Ex):M Ex:=fun s=>
 if isS kNULL s then (litE 0 0 ⟨#[]⟩,s.next)
 else if isS kLENGTH s then (opE 9 [(rec (needP yLp s.next)).1],needP yRp (rec (needP yLp s.next)).2)
 else if isS yLp s then ((rec s.next).1,needP yRp (rec s.next).2)
 else if s.hd.kind=3 then (litE 1 (numP s).1 ⟨#[]⟩,(numP s).2)
 else if s.hd.kind=4 then (litE 2 0 (takP 4 s).1,(takP 4 s).2)
 else colP s
def exprR:Nat→M Ex
 |0=>fun s=> (colE ⟨#[]⟩ ⟨#[]⟩,s)
 |n+1=>orP (primR (exprR n))
def Rel {α:Type} (x y:α×Ps):Prop:=x=y∨(x.2=y.2∧x.2.bad=true)
def Sim {α:Type} (m n:M α):Prop:=∀s,Rel (m s) (n s)
def Stk {α:Type} (m:M α):Prop:=∀s,s.bad=true→(m s).2=s
theorem bad_isS {s:Ps} (h:s.bad=true) (t:ByteArray):isS t s=false:=by simp[isS,h]
theorem bad_hasK {s:Ps} (h:s.bad=true) (k:Nat):hasK k s=false:=by simp[hasK,h]
theorem bad_fail {s:Ps} (h:s.bad=true):s.fail=s:=by cases s;simp[Ps.fail]at*;exact h
theorem bad_need {s:Ps} (h:s.bad=true) (t:ByteArray):needP t s=s:=by rw[needP,bad_isS h,if_neg (by simp),bad_fail h]
theorem bad_opt {s:Ps} (h:s.bad=true) (t:ByteArray):optP t s=s:=by rw[optP,bad_isS h,if_neg (by simp)]
theorem bad_tak {s:Ps} (h:s.bad=true) (k:Nat):takP k s=(⟨#[]⟩,s):=by unfold takP;rw[bad_hasK h,if_neg (by simp),bad_fail h]
theorem stk_tak (k:Nat):Stk (takP k):=fun s h=>by rw[bad_tak h]
theorem stk_num:Stk numP:=fun s h=>by unfold numP;rw[bad_tak h]
theorem stk_pos:Stk posP:=fun s h=>by unfold posP;rw[bad_hasK h];simp[stk_num s h]
theorem stk_first (l:List (ByteArray×Int)):∀s:Ps,s.bad=true→firstP l s=(none,s):=by
 induction l with
 |nil=>intro s _;rfl
 |cons a l ih=>intro s h;rw[firstP,bad_isS h,if_neg (by simp),ih s h]
theorem stk_chainGo (el:M Ex) (ops:List (ByteArray×Int)):∀(n:Nat) (e:Ex) (s:Ps),s.bad=true→chainGo el ops n e s=(e,s)
 |0,_,_,_=>rfl
 |n+1,e,s,h=>by rw[chainGo,stk_first ops s h]
theorem stk_chain {el:M Ex} (h:Stk el) (ops:List (ByteArray×Int)):Stk (chainP el ops):=fun s hb=>by
 unfold chainP
 rw[h s hb,stk_chainGo el ops _ _ _ hb]
theorem stk_listGo {α:Type} (el:M α):∀(n:Nat) (o:List α) (s:Ps),s.bad=true→listGo el n o s=(o,s)
 |0,_,_,_=>rfl
 |n+1,o,s,h=>by rw[listGo,bad_isS h,if_neg (by simp)]
theorem stk_list {α:Type} {el:M α} (h:Stk el):Stk (listP el):=fun s hb=>by
 unfold listP
 rw[h s hb,stk_listGo el _ _ _ hb]
theorem stk_col:Stk colP:=fun s h=>by
 unfold colP
 rw[bad_tak h,bad_isS h,if_neg (by simp)]
theorem stk_una {p:M Ex} (h:Stk p):Stk (unaP p):=fun s hb=>by
 unfold unaP
 rw[bad_isS hb,if_neg (by simp),h s hb]
theorem stk_pro {p:M Ex} (h:Stk p):Stk (proP p):=stk_chain (stk_una h) _
theorem stk_sum {p:M Ex} (h:Stk p):Stk (sumP p):=stk_chain (stk_pro h) _
theorem stk_tail (sum:M Ex) (a:Ex):Stk (tailP sum a):=fun s hb=>by
 unfold tailP
 rw[stk_first _ s hb,bad_isS hb,bad_opt hb]
 simp only[bad_isS hb]
 simp
theorem stk_test {p:M Ex} (h:Stk p):Stk (testP p):=fun s hb=>by
 unfold testP
 rw[stk_sum h s hb,stk_tail _ _ s hb]
theorem stk_notGo {p:M Ex} (h:Stk p):∀n,Stk (notGo p n)
 |0=>stk_test h
 |n+1=>fun s hb=>by
  rw[notGo,bad_isS hb,if_neg (by simp)]
  exact stk_test h s hb
theorem stk_not {p:M Ex} (h:Stk p):Stk (notP p):=fun s hb=>stk_notGo h _ s hb
theorem stk_or {p:M Ex} (h:Stk p):Stk (orP p):=stk_chain (stk_chain (stk_not h) _) _
theorem stk_prim (rec:M Ex):Stk (primP rec):=fun s hb=>by
 unfold primP
 simp only[bad_hasK hb,bad_isS hb]
 simpa using stk_col s hb
theorem stk_primR (rec:M Ex):Stk (primR rec):=fun s hb=>by
 unfold primR
 simp only[bad_isS hb]
 simp only[Bool.false_eq_true,if_false]
 split
 ·exact stk_num s hb
 ·split
  ·exact stk_tak 4 s hb
  ·exact stk_col s hb
theorem stk_expr:∀n,Stk (exprP n)
 |0=>fun _ _=>rfl
 |n+1=>stk_or (stk_prim _)
theorem sim_bad {α:Type} {m n:M α} (hm:Stk m) (hn:Stk n) {s:Ps} (h:s.bad=true):Rel (m s) (n s):= .inr ⟨(hm s h).trans (hn s h).symm,by rw[hm s h];exact h⟩
theorem sim_chainGo {a b:M Ex} (h:Sim a b) (ops:List (ByteArray×Int)):∀(n:Nat) (e:Ex) (s:Ps),Rel (chainGo a ops n e s) (chainGo b ops n e s)
 |0,_,_=> .inl rfl
 |n+1,e,s=>by
  rw[chainGo,chainGo]
  cases (firstP ops s).1 with
  |none=>exact .inl rfl
  |some o=>
   simp only
   rcases h (firstP ops s).2 with h1|⟨h1,h2⟩
   ·rw[h1];exact sim_chainGo h ops n _ _
   ·rw[←h1,stk_chainGo _ _ _ _ _ h2,stk_chainGo _ _ _ _ _ h2]
    exact .inr ⟨rfl,h2⟩
theorem sim_chain {a b:M Ex} (h:Sim a b) (ops:List (ByteArray×Int)):Sim (chainP a ops) (chainP b ops):=fun s=>by
 unfold chainP
 rcases h s with h1|⟨h1,h2⟩
 ·rw[h1];exact sim_chainGo h ops _ _ _
 ·rw[←h1,stk_chainGo _ _ _ _ _ h2,stk_chainGo _ _ _ _ _ h2]
  exact .inr ⟨rfl,h2⟩
theorem sim_una {a b:M Ex} (h:Sim a b):Sim (unaP a) (unaP b):=fun s=>by
 unfold unaP
 split
 ·rcases h s.next with h1|⟨h1,h2⟩
  ·rw[h1];exact .inl rfl
  ·exact .inr ⟨h1,h2⟩
 ·exact h s
theorem sim_pro {a b:M Ex} (h:Sim a b):Sim (proP a) (proP b):=sim_chain (sim_una h) _
theorem sim_sum {a b:M Ex} (h:Sim a b):Sim (sumP a) (sumP b):=sim_chain (sim_pro h) _
theorem sim_inGo {a b:M Ex} (h:Sim a b) (x:Ex):∀(n:Nat) (e:Ex) (s:Ps),Rel (inGo a x n e s) (inGo b x n e s)
 |0,_,_=> .inl rfl
 |n+1,e,s=>by
  rw[inGo,inGo]
  split
  ·rcases h s.next with h1|⟨h1,h2⟩
   ·rw[h1];exact sim_inGo h x n _ _
   ·have k:∀(c:M Ex) (n:Nat) (e:Ex),inGo c x n e (b s.next).2=(e,(b s.next).2):=fun c n e=>by
     cases n with
     |zero=>rfl
     |succ n=>rw[inGo,bad_isS (h1 ▸ h2),if_neg (by simp)]
    rw[h1,k,k]
    exact .inr ⟨rfl,h1 ▸ h2⟩
  ·exact .inl rfl
theorem stk_inGo (c:M Ex) (x:Ex) (n:Nat) (e:Ex) {s:Ps} (h:s.bad=true):inGo c x n e s=(e,s):=by
 cases n with
 |zero=>rfl
 |succ n=>rw[inGo,bad_isS h,if_neg (by simp)]
theorem sim_in {a b:M Ex} (h:Sim a b) (x:Ex):Sim (inP a x) (inP b x):=fun s=>by
 unfold inP
 rcases h s with h1|⟨h1,h2⟩
 ·rw[h1];exact sim_inGo h x _ _ _
 ·rw[←h1,stk_inGo _ _ _ _ h2,stk_inGo _ _ _ _ h2]
  exact .inr ⟨rfl,h2⟩
theorem sim_tail {a b:M Ex} (h:Sim a b) (ha:Stk a) (hb:Stk b) (x:Ex):Sim (tailP a x) (tailP b x):=fun s=>by
 unfold tailP
 cases (firstP opsCmp s).1 with
 |some o=>
  simp only
  rcases h (firstP opsCmp s).2 with h1|⟨h1,h2⟩
  ·rw[h1];exact .inl rfl
  ·exact .inr ⟨h1,h2⟩
 |none=>
  simp only
  split
  ·exact .inl rfl
  split
  ·exact .inl rfl
  split
  ·rcases h (optP kNOT s).next with h1|⟨h1,h2⟩
   ·rw[h1]
    rcases h (needP kAND (b (optP kNOT s).next).2)with h3|⟨h3,h4⟩
    ·rw[h3];exact .inl rfl
    ·exact .inr ⟨h3,h4⟩
   ·rw[←h1,bad_need h2]
    have e1:=ha _ h2
    have e2:=hb _ h2
    exact .inr ⟨e1.trans e2.symm,by simp only;rw[e1];exact h2⟩
  split
  ·rcases sim_in h x (needP yLp (optP kNOT s).next)with h1|⟨h1,h2⟩
   ·rw[h1];exact .inl rfl
   ·exact .inr ⟨by simp only;rw[h1],by simp only;rw[bad_need h2];exact h2⟩
  ·exact .inl rfl
theorem sim_test {a b:M Ex} (h:Sim a b) (ha:Stk a) (hb:Stk b):Sim (testP a) (testP b):=fun s=>by
 unfold testP
 rcases sim_sum h s with h1|⟨h1,h2⟩
 ·rw[h1];exact sim_tail (sim_sum h) (stk_sum ha) (stk_sum hb) _ _
 ·rw[←h1]
  have e1:=stk_tail (sumP a) (sumP a s).1 _ h2
  have e2:=stk_tail (sumP b) (sumP b s).1 _ h2
  exact .inr ⟨e1.trans e2.symm,by rw[e1];exact h2⟩
theorem sim_notGo {a b:M Ex} (h:Sim a b) (ha:Stk a) (hb:Stk b):∀n,Sim (notGo a n) (notGo b n)
 |0=>sim_test h ha hb
 |n+1=>fun s=>by
  rw[notGo,notGo]
  split
  ·rcases sim_notGo h ha hb n s.next with h1|⟨h1,h2⟩
   ·rw[h1];exact .inl rfl
   ·exact .inr ⟨h1,h2⟩
  ·exact sim_test h ha hb s
theorem sim_or {a b:M Ex} (h:Sim a b) (ha:Stk a) (hb:Stk b):Sim (orP a) (orP b):=sim_chain (sim_chain (fun s=>sim_notGo h ha hb _ s) _) _
theorem sim_prim {a b:M Ex} (h:Sim a b):Sim (primP a) (primR b):=fun s=>by
 by_cases hs:s.bad=true
 ·exact sim_bad (stk_prim a) (stk_primR b) hs
 have hb:s.bad=false:=by cases h:s.bad;rfl;exact absurd h hs
 unfold primP primR
 have e3:hasK 3 s=(s.hd.kind==3):=by simp[hasK,hb]
 have e4:hasK 4 s=(s.hd.kind==4):=by simp[hasK,hb]
 rw[e3,e4]
 by_cases k3:s.hd.kind=3
 ·have hi:∀t,isS t s=false:=fun t=>by simp[isS,k3]
  simp[k3,hi]
  exact .inl rfl
 by_cases k4:s.hd.kind=4
 ·have hi:∀t,isS t s=false:=fun t=>by simp[isS,k4]
  simp[k4,hi]
  exact .inl rfl
 rw[if_neg (by simpa using k3),if_neg (by simpa using k4),if_neg k3,if_neg k4]
 split
 ·exact .inl rfl
 split
 ·rcases h (needP yLp s.next)with h1|⟨h1,h2⟩
  ·rw[h1];exact .inl rfl
  ·exact .inr ⟨by simp only;rw[h1],by simp only;rw[bad_need h2];exact h2⟩
 split
 ·rcases h s.next with h1|⟨h1,h2⟩
  ·rw[h1];exact .inl rfl
  ·exact .inr ⟨by simp only;rw[h1],by simp only;rw[bad_need h2];exact h2⟩
 ·exact .inl rfl
theorem sim_expr:∀n,Sim (exprP n) (exprR n)
 |0=>fun _=> .inl rfl
 |n+1=>sim_or (sim_prim (sim_expr n)) (stk_prim _) (stk_primR _)
theorem stk_bnd {α β:Type} {m:M α} {f:α→M β} (h:Stk m) (hf:∀a,Stk (f a)):Stk (bndM m f):=fun s hb=>by
 unfold bndM
 rw[h s hb]
 exact hf _ s hb
theorem stk_ret {α:Type} (a:α):Stk (retM a):=fun s _=>rfl
theorem stk_need (t:ByteArray):Stk (needM t):=fun s hb=>bad_need hb t
theorem stk_if {α:Type} (t:ByteArray) (m:M α) {n:M α} (h:Stk n):Stk (ifM t m n):=fun s hb=>by
 unfold ifM
 rw[bad_isS hb,if_neg (by simp)]
 exact h s hb
theorem stk_fst {α:Type} (ops:List (ByteArray×Int)) (f:Int→M α) {m:M α} (h:Stk m):Stk (fstM ops f m):=fun s hb=>by
 unfold fstM
 rw[stk_first ops s hb]
 exact h s hb
theorem stk_names:Stk namesP:=stk_bnd (stk_need _) fun _=>stk_bnd (stk_list (stk_tak 1)) fun _=>stk_bnd (stk_need _) fun _=>stk_ret _
theorem stk_bndP:Stk bndP:=stk_if _ _ stk_num
theorem stk_typ:Stk typP:=stk_if _ _ (stk_bnd (stk_need _) fun _=>stk_if _ _ (stk_ret _))
theorem stk_def:Stk defP:=stk_bnd (stk_tak 1) fun _=>stk_bnd stk_typ fun _=>stk_if _ _ (stk_ret _)
theorem stk_ref:Stk refP:=stk_bnd stk_names fun _=>stk_bnd (stk_need _) fun _=>stk_bnd (stk_tak 1) fun _=>stk_bnd stk_names fun _=>stk_ret _
theorem stk_src:Stk srcP:=stk_bnd (stk_tak 1) fun _=>stk_if _ _ (stk_ret _)
theorem stk_ord {p:M Int} (h:Stk p):Stk (ordP p):=stk_bnd h fun _=>stk_if _ _ (stk_if _ _ (stk_ret _))
theorem stk_grp:Stk grpP:=stk_if _ _ (stk_ret _)
theorem stk_ords (p:M Int):Stk (ordsP p):=stk_if _ _ (stk_ret _)
theorem stk_lim (p:M Int):Stk (limP p):=stk_if _ _ (stk_ret _)
theorem stk_elem (ex:M Ex) (d:Df) (l:List ByteArray):Stk (elemP ex d l):=stk_if _ _ (stk_if _ _ (stk_if _ _ (stk_if _ _ (stk_bnd stk_def fun _=>stk_ret _))))
theorem stk_elemGo (ex:M Ex):∀(n:Nat) (d:Df) (l:List ByteArray),Stk (elemGo ex n d l)
 |0,_,_=>stk_ret _
 |_+1,_,_=>stk_if _ _ (stk_ret _)
theorem stk_elems (ex:M Ex):Stk (elemsP ex):=fun s hb=>stk_bnd (stk_elem ex _ _) (fun x=>stk_elemGo ex (s.r.length+1) x.1 x.2) s hb
theorem stk_tup {ex:M Ex} (h:Stk ex):Stk (tupP ex):=stk_bnd (stk_need _) fun _=>stk_bnd (stk_list h) fun _=>stk_bnd (stk_need _) fun _=>stk_ret _
theorem stk_whr (ex:M Ex):Stk (whrP ex):=stk_if _ _ (stk_ret _)
theorem stk_asg {ex:M Ex} (h:Stk ex):Stk (asgP ex):=stk_bnd (stk_tak 1) fun _=>stk_bnd (stk_need _) fun _=>stk_bnd h fun _=>stk_ret _
theorem stk_itm1 {ex:M Ex} (h:Stk ex) (o:Int):Stk (itm1 ex o):=stk_bnd h fun _=>stk_bnd (stk_need _) fun _=>stk_ret _
theorem stk_itm {ex:M Ex} (h:Stk ex):Stk (itmP ex):=stk_fst _ _ (stk_bnd h fun _=>stk_ret _)
theorem stk_fromGo (ex:M Ex):∀(n:Nat) (l:List Src) (c:List Ex),Stk (fromGo ex n l c)
 |0,_,_=>stk_ret _
 |_+1,_,_=>stk_if _ _ (stk_if _ _ (stk_ret _))
theorem stk_from (ex:M Ex):Stk (fromP ex):=fun s hb=>stk_bnd stk_src (fun x=>stk_fromGo ex (s.r.length+1) [x] []) s hb
theorem stk_cond (ex:M Ex) (k:List Ex→Ex) (c:List Ex):Stk (condP ex k c):=stk_if _ _ (stk_ret _)
section
variable {a b:M Ex} (h:Sim a b) (ha:Stk a) (hb:Stk b)
include h ha hb
end
end
section
open Lx (Tk)
def Fwd {α:Type} (m:M α):Prop:=∀s,(m s).2.r.length≤s.r.length
theorem next_len (s:Ps):s.next.r.length≤s.r.length:=by simp[Ps.next]
theorem isS_cons {t:ByteArray} {s:Ps} (h:isS t s=true):s.bad=false∧∃a l,s.r=a::l∧(a.kind=2∨a.kind=5)∧tkB a=t∧s.next=⟨l,false⟩:=by
 obtain⟨r,b⟩:=s
 cases r with
 |nil=>simp[isS,Ps.hd]at h
 |cons a l=>
  simp only[isS,Ps.hd,List.headD_cons,Bool.and_eq_true,Bool.not_eq_true',Bool.or_eq_true,beq_iff_eq,decide_eq_true_eq]at h
  exact⟨h.1,a,l,rfl,h.2.1,of_decide_eq_true h.2.2,by simp[Ps.next,h.1]⟩
theorem isS_len {t:ByteArray} {s:Ps} (h:isS t s=true):s.next.r.length+1=s.r.length:=by
 obtain⟨_,a,l,h1,_,_,h2⟩:=isS_cons h
 rw[h1,h2]
 simp
theorem hasK_cons {k:Nat} (hk:k≠0) {s:Ps} (h:hasK k s=true):s.bad=false∧∃a l,s.r=a::l∧a.kind=k∧s.next=⟨l,false⟩:=by
 obtain⟨r,b⟩:=s
 cases r with
 |nil=>simp[hasK,Ps.hd]at h;omega
 |cons a l=>
  simp only[hasK,Ps.hd,List.headD_cons,Bool.and_eq_true,Bool.not_eq_true',beq_iff_eq]at h
  exact⟨h.1,a,l,rfl,h.2,by simp[Ps.next,h.1]⟩
theorem fwd_tak (k:Nat):Fwd (takP k):=fun s=>by
 unfold takP
 split
 ·exact next_len s
 ·exact Nat.le_refl _
theorem need_len (t:ByteArray) (s:Ps):(needP t s).r.length≤s.r.length:=by
 unfold needP
 split
 ·exact next_len s
 ·exact Nat.le_refl _
theorem opt_len (t:ByteArray) (s:Ps):(optP t s).r.length≤s.r.length:=by
 unfold optP
 split
 ·exact next_len s
 ·exact Nat.le_refl _
theorem fwd_num:Fwd numP:=fun s=>fwd_tak 3 s
theorem fwd_pos:Fwd posP:=fun s=>by
 unfold posP
 split
 ·exact fwd_num s.fail
 ·exact fwd_num s
theorem first_len (l:List (ByteArray×Int)):∀s:Ps,(firstP l s).2.r.length≤s.r.length∧((firstP l s).1.isSome=true→(firstP l s).2.r.length+1=s.r.length):=by
 induction l with
 |nil=>intro s;exact⟨Nat.le_refl _,fun h=>by simp[firstP]at h⟩
 |cons a l ih=>
  intro s
  rw[firstP]
  split
  ·next h=>exact⟨next_len s,fun _=>isS_len h⟩
  ·exact ih s
theorem first_some {l:List (ByteArray×Int)} {s:Ps} {o:Int} (h:(firstP l s).1=some o):(firstP l s).2.r.length+1=s.r.length:=(first_len l s).2 (by rw[h];rfl)
theorem first_none:∀(l:List (ByteArray×Int)) (s:Ps),(firstP l s).1=none→(firstP l s).2=s
 | [],_,_=>rfl
 |(t,o)::l,s,h=>by
  rw[firstP]at h ⊢
  split at h
  ·cases h
  ·next h2=>rw[if_neg h2];exact first_none l s h
theorem fwd_chainGo {el:M Ex} (h:Fwd el) (ops:List (ByteArray×Int)):∀(n:Nat) (e:Ex),Fwd (chainGo el ops n e)
 |0,_=>fun _=>Nat.le_refl _
 |n+1,e=>fun s=>by
  rw[chainGo]
  split
  ·exact Nat.le_refl _
  ·exact Nat.le_trans (fwd_chainGo h ops n _ _) (Nat.le_trans (h _) (first_len ops s).1)
theorem fwd_chain {el:M Ex} (h:Fwd el) (ops:List (ByteArray×Int)):Fwd (chainP el ops):=fun s=>Nat.le_trans (fwd_chainGo h ops _ _ _) (h s)
theorem fwd_listGo {α:Type} {el:M α} (h:Fwd el):∀(n:Nat) (o:List α),Fwd (listGo el n o)
 |0,_=>fun _=>Nat.le_refl _
 |n+1,o=>fun s=>by
  rw[listGo]
  split
  ·exact Nat.le_trans (fwd_listGo h n _ _) (Nat.le_trans (h _) (next_len s))
  ·exact Nat.le_refl _
theorem fwd_list {α:Type} {el:M α} (h:Fwd el):Fwd (listP el):=fun s=>Nat.le_trans (fwd_listGo h _ _ _) (h s)
theorem fwd_bnd {α β:Type} {m:M α} {f:α→M β} (h:Fwd m) (hf:∀a,Fwd (f a)):Fwd (bndM m f):=fun s=>Nat.le_trans (hf _ _) (h s)
theorem fwd_ret {α:Type} (a:α):Fwd (retM a):=fun _=>Nat.le_refl _
theorem fwd_need (t:ByteArray):Fwd (needM t):=fun s=>need_len t s
theorem fwd_if {α:Type} (t:ByteArray) {m n:M α} (h1:Fwd m) (h2:Fwd n):Fwd (ifM t m n):=fun s=>by
 unfold ifM
 split
 ·exact Nat.le_trans (h1 _) (next_len s)
 ·exact h2 s
theorem fwd_fst {α:Type} (ops:List (ByteArray×Int)) {f:Int→M α} {m:M α} (h1:∀o,Fwd (f o)) (h2:Fwd m):Fwd (fstM ops f m):=fun s=>by
 unfold fstM
 split
 ·exact Nat.le_trans (h1 _ _) (first_len ops s).1
 ·exact h2 s
theorem fwd_col:Fwd colP:=fun s=>by
 unfold colP
 split
 ·exact Nat.le_trans (fwd_tak 1 _) (Nat.le_trans (next_len _) (fwd_tak 1 s))
 ·exact fwd_tak 1 s
theorem fwd_una {p:M Ex} (h:Fwd p):Fwd (unaP p):=fun s=>by
 unfold unaP
 split
 ·exact Nat.le_trans (h _) (next_len s)
 ·exact h s
theorem fwd_sum {p:M Ex} (h:Fwd p):Fwd (sumP p):=fwd_chain (fwd_chain (fwd_una h) _) _
theorem fwd_inGo {p:M Ex} (h:Fwd p) (a:Ex):∀(n:Nat) (e:Ex),Fwd (inGo p a n e)
 |0,_=>fun _=>Nat.le_refl _
 |n+1,e=>fun s=>by
  rw[inGo]
  split
  ·exact Nat.le_trans (fwd_inGo h a n _ _) (Nat.le_trans (h _) (next_len s))
  ·exact Nat.le_refl _
theorem fwd_tail {p:M Ex} (h:Fwd p) (a:Ex):Fwd (tailP p a):=fun s=>by
 have k:(optP kNOT s).next.r.length≤s.r.length:=Nat.le_trans (next_len _) (opt_len _ _)
 unfold tailP
 split
 ·exact Nat.le_trans (h _) (first_len _ s).1
 split
 ·exact Nat.le_trans (need_len _ _) (Nat.le_trans (opt_len _ _) (next_len s))
 split
 ·exact Nat.le_trans (fwd_tak 4 _) k
 split
 ·exact Nat.le_trans (h _) (Nat.le_trans (need_len _ _) (Nat.le_trans (h _) k))
 split
 ·exact Nat.le_trans (need_len _ _) (Nat.le_trans (fwd_inGo h _ _ _ _) (Nat.le_trans (h _) (Nat.le_trans (need_len _ _) k)))
 ·simp only
  split
  ·exact opt_len _ _
  ·exact Nat.le_refl _
theorem fwd_test {p:M Ex} (h:Fwd p):Fwd (testP p):=fun s=>Nat.le_trans (fwd_tail (fwd_sum h) _ _) (fwd_sum h s)
theorem fwd_notGo {p:M Ex} (h:Fwd p):∀n,Fwd (notGo p n)
 |0=>fwd_test h
 |n+1=>fun s=>by
  rw[notGo]
  split
  ·exact Nat.le_trans (fwd_notGo h n _) (next_len s)
  ·exact fwd_test h s
theorem fwd_and {p:M Ex} (h:Fwd p):Fwd (andP p):=fwd_chain (fun s=>fwd_notGo h _ s) _
theorem fwd_or {p:M Ex} (h:Fwd p):Fwd (orP p):=fwd_chain (fwd_and h) _
theorem fwd_prim {p:M Ex} (h:Fwd p):Fwd (primP p):=fun s=>by
 unfold primP
 split
 ·exact fwd_num s
 split
 ·exact fwd_tak 4 s
 split
 ·exact next_len s
 split
 ·exact Nat.le_trans (need_len _ _) (Nat.le_trans (h _) (Nat.le_trans (need_len _ _) (next_len s)))
 split
 ·exact Nat.le_trans (need_len _ _) (Nat.le_trans (h _) (next_len s))
 ·exact fwd_col s
theorem fwd_expr:∀n,Fwd (exprP n)
 |0=>fun _=>Nat.le_refl _
 |n+1=>fwd_or (fwd_prim (fwd_expr n))
def Nz (m:M Ex):Prop:=∀s,(m s).1.d.op≠0
theorem first_mem:∀(l:List (ByteArray×Int)) (s:Ps) (o:Int),(firstP l s).1=some o→∃t,(t,o)∈l
 | [],_,_,h=>by simp[firstP]at h
 |(t,k)::l,s,o,h=>by
  rw[firstP]at h
  split at h
  ·simp at h;subst h;exact⟨t,List.mem_cons_self ..⟩
  ·obtain⟨u,hu⟩:=first_mem l s o h
   exact⟨u,List.mem_cons_of_mem _ hu⟩
section
variable {a b:M Ex} (h:Sim a b) (ha:Stk a) (hb:Stk b) (hz:Nz b)
include h ha hb hz
end
theorem end_bad {s:Ps} (h:s.bad=true):endP s=s:=by rw[endP,bad_hasK h,if_neg (by simp),bad_fail h]
theorem whole_sim {α:Type} {m m':M α} (h:Sim m m') (l:List Tk):wholeP m l=wholeP m' l:=by
 unfold wholeP
 rcases h ⟨l,false⟩with h1|⟨h1,h2⟩
 ·rw[h1]
 ·rw[←h1,end_bad h2,if_pos h2,if_pos h2]
def scrGo (stm:M St) (vld:St→Int):Nat→List St→Ps→(Nat×Int) ⊕ List St
 |0,out,_=> .inr out
 |n+1,out,s=>
  if s.hd.kind=0 then .inr out
  else if (needP ySemi (stm s).2).bad=true then .inl ((needP ySemi (stm s).2).hd.pos,2)
  else if vld (stm s).1≠0 then .inl (s.hd.pos,vld (stm s).1)
  else scrGo stm vld n (out++ [(stm s).1]) (needP ySemi (stm s).2)
end
section
open Lx (Tk)
structure Kp (f:Tk→Tk):Prop where
 kd:∀a,(f a).kind=a.kind
 tx:∀a,(f a).text=a.text
def Ps.mp (f:Tk→Tk) (s:Ps):Ps:=⟨s.r.map f,s.bad⟩
def Sfx (s t:Ps):Prop:=∃A,s.r=A++t.r∧∀a∈A,a.kind≠0
theorem Sfx.refl (s:Ps):Sfx s s:=⟨[],rfl,by simp⟩
theorem Sfx.trans {a b c:Ps} (h:Sfx a b) (k:Sfx b c):Sfx a c:=by
 obtain⟨A,h1,h2⟩:=h
 obtain⟨B,k1,k2⟩:=k
 exact⟨A++B,by rw[h1,k1,List.append_assoc],fun a ha=> (List.mem_append.1 ha).elim (h2 a) (k2 a)⟩
theorem Sfx.next {t:ByteArray} {s:Ps} (h:isS t s=true):Sfx s s.next:=by
 obtain⟨_,a,l,h1,h2,_,h3⟩:=isS_cons h
 exact⟨[a],by rw[h1,h3];rfl,fun b hb=>by rw[List.mem_singleton.1 hb];omega⟩
theorem Sfx.nextk {k:Nat} (hk:k≠0) {s:Ps} (h:hasK k s=true):Sfx s s.next:=by
 obtain⟨_,a,l,h1,h2,h3⟩:=hasK_cons hk h
 exact⟨[a],by rw[h1,h3];rfl,fun b hb=>by rw[List.mem_singleton.1 hb];omega⟩
theorem Sfx.fail (s:Ps):Sfx s s.fail:=Sfx.refl s
theorem sfx_need (t:ByteArray) (s:Ps):Sfx s (needP t s):=by
 unfold needP
 split
 ·next h=>exact Sfx.next h
 ·exact Sfx.fail s
theorem sfx_opt (t:ByteArray) (s:Ps):Sfx s (optP t s):=by
 unfold optP
 split
 ·next h=>exact Sfx.next h
 ·exact Sfx.refl s
section
variable {f:Tk→Tk} (hf:Kp f)
include hf
theorem mp_isS (t:ByteArray) (s:Ps):isS t (s.mp f)=isS t s:=by
 unfold isS Ps.mp Ps.hd tkB
 cases s.r with
 |nil=>rfl
 |cons a l=>simp[hf.kd,hf.tx]
theorem mp_hasK (k:Nat) (s:Ps):hasK k (s.mp f)=hasK k s:=by
 unfold hasK Ps.mp Ps.hd
 cases s.r with
 |nil=>rfl
 |cons a l=>simp[hf.kd]
theorem mp_hd (s:Ps):tkB (s.mp f).hd=tkB s.hd:=by
 unfold Ps.mp Ps.hd tkB
 cases s.r with
 |nil=>rfl
 |cons a l=>simp[hf.tx]
omit hf in
theorem mp_next (s:Ps):(s.mp f).next=s.next.mp f:=by simp[Ps.mp,Ps.next]
omit hf in
theorem mp_fail (s:Ps):(s.mp f).fail=s.fail.mp f:=rfl
omit hf in
theorem mp_len (s:Ps):(s.mp f).r.length=s.r.length:=by simp[Ps.mp]
theorem mp_need (t:ByteArray) (s:Ps):needP t (s.mp f)=(needP t s).mp f:=by
 unfold needP
 rw[mp_isS hf]
 split
 ·exact mp_next s
 ·rfl
theorem mp_opt (t:ByteArray) (s:Ps):optP t (s.mp f)=(optP t s).mp f:=by
 unfold optP
 rw[mp_isS hf]
 split
 ·exact mp_next s
 ·rfl
theorem mp_first:∀(l:List (ByteArray×Int)) (s:Ps),firstP l (s.mp f)=((firstP l s).1,(firstP l s).2.mp f)
 | [],_=>rfl
 |(t,o)::l,s=>by
  rw[firstP,firstP,mp_isS hf]
  split
  ·rw[mp_next]
  ·exact mp_first l s
end
theorem sfx_first:∀(l:List (ByteArray×Int)) (s:Ps),Sfx s (firstP l s).2
 | [],s=>Sfx.refl s
 |(t,o)::l,s=>by
  rw[firstP]
  split
  ·next h=>exact Sfx.next h
  ·exact sfx_first l s
structure Rdy {α:Type} (m:M α):Prop where
 sfx:∀s,Sfx s (m s).2
 mp:∀ {f:Tk→Tk},Kp f→∀s:Ps,m (s.mp f)=((m s).1,(m s).2.mp f)
theorem rdy_tak {k:Nat} (hk:k≠0):Rdy (takP k):=⟨fun s=>by
 unfold takP
 split
 ·next h=>exact Sfx.nextk hk h
 ·exact Sfx.fail s,fun hf s=>by
 unfold takP
 rw[mp_hasK hf,mp_hd hf,mp_next,mp_fail]
 split<;>rfl⟩
theorem rdy_num:Rdy numP:=⟨fun s=> (rdy_tak (by omega)).sfx s,fun hf s=>by unfold numP;rw[(rdy_tak (by omega)).mp hf]⟩
theorem rdy_pos:Rdy posP:=⟨fun s=>by
 unfold posP
 split
 ·exact rdy_num.sfx s.fail
 ·exact rdy_num.sfx s,fun hf s=>by
 unfold posP
 rw[mp_hasK hf,mp_hd hf]
 split
 ·exact rdy_num.mp hf s.fail
 ·exact rdy_num.mp hf s⟩
theorem rdy_chainGo {el:M Ex} (h:Rdy el) (ops:List (ByteArray×Int)):∀(n:Nat) (e:Ex),Rdy (chainGo el ops n e)
 |0,_=>⟨fun s=>Sfx.refl s,fun _ _=>rfl⟩
 |n+1,e=>⟨fun s=>by
  rw[chainGo]
  split
  ·exact Sfx.refl s
  ·exact(sfx_first ops s).trans ((h.sfx _).trans ((rdy_chainGo h ops n _).sfx _)),fun hf s=>by
  rw[chainGo,chainGo,mp_first hf]
  cases (firstP ops s).1 with
  |none=>rfl
  |some o=>
   simp only
   rw[h.mp hf]
   exact(rdy_chainGo h ops n _).mp hf _⟩
theorem rdy_chain {el:M Ex} (h:Rdy el) (ops:List (ByteArray×Int)):Rdy (chainP el ops):=⟨fun s=> (h.sfx s).trans ((rdy_chainGo h ops _ _).sfx _),fun hf s=>by
 unfold chainP
 rw[mp_len,h.mp hf]
 exact(rdy_chainGo h ops _ _).mp hf _⟩
theorem rdy_listGo {α:Type} {el:M α} (h:Rdy el):∀(n:Nat) (o:List α),Rdy (listGo el n o)
 |0,_=>⟨fun s=>Sfx.refl s,fun _ _=>rfl⟩
 |n+1,o=>⟨fun s=>by
  rw[listGo]
  split
  ·next hc=>exact(Sfx.next hc).trans ((h.sfx _).trans ((rdy_listGo h n _).sfx _))
  ·exact Sfx.refl s,fun hf s=>by
  rw[listGo,listGo,mp_isS hf]
  split
  ·rw[mp_next,h.mp hf]
   exact(rdy_listGo h n _).mp hf _
  ·rfl⟩
theorem rdy_list {α:Type} {el:M α} (h:Rdy el):Rdy (listP el):=⟨fun s=> (h.sfx s).trans ((rdy_listGo h _ _).sfx _),fun hf s=>by
 unfold listP
 rw[mp_len,h.mp hf]
 exact(rdy_listGo h _ _).mp hf _⟩
theorem rdy_bnd {α β:Type} {m:M α} {f:α→M β} (h:Rdy m) (k:∀a,Rdy (f a)):Rdy (bndM m f):=⟨fun s=> (h.sfx s).trans ((k _).sfx _),fun hf s=>by
 unfold bndM
 rw[h.mp hf]
 exact(k _).mp hf _⟩
theorem rdy_ret {α:Type} (a:α):Rdy (retM a):=⟨fun s=>Sfx.refl s,fun _ _=>rfl⟩
theorem rdy_need (t:ByteArray):Rdy (needM t):=⟨fun s=>sfx_need t s,fun hf s=>by unfold needM;rw[mp_need hf]⟩
theorem rdy_if {α:Type} (t:ByteArray) {m n:M α} (h1:Rdy m) (h2:Rdy n):Rdy (ifM t m n):=⟨fun s=>by
 unfold ifM
 split
 ·next hc=>exact(Sfx.next hc).trans (h1.sfx _)
 ·exact h2.sfx s,fun hf s=>by
 unfold ifM
 rw[mp_isS hf]
 split
 ·rw[mp_next];exact h1.mp hf _
 ·exact h2.mp hf _⟩
theorem rdy_fst {α:Type} (ops:List (ByteArray×Int)) {f:Int→M α} {m:M α} (h1:∀o,Rdy (f o)) (h2:Rdy m):Rdy (fstM ops f m):=⟨fun s=>by
 unfold fstM
 split
 ·exact(sfx_first ops s).trans ((h1 _).sfx _)
 ·exact h2.sfx s,fun hf s=>by
 unfold fstM
 rw[mp_first hf]
 cases (firstP ops s).1 with
 |none=>exact h2.mp hf _
 |some o=>exact(h1 o).mp hf _⟩
theorem rdy_col:Rdy colP:=⟨fun s=>by
 have h1:=(rdy_tak (k:=1) (by omega)).sfx
 unfold colP
 split
 ·next hc=>exact(h1 s).trans ((Sfx.next hc).trans (h1 _))
 ·exact h1 s,fun hf s=>by
 have h1:=fun s=> (rdy_tak (k:=1) (by omega)).mp hf s
 unfold colP
 rw[h1,mp_isS hf]
 split
 ·rw[mp_next,h1]
 ·rfl⟩
section
variable {p:M Ex} (h:Rdy p)
include h
theorem rdy_una:Rdy (unaP p):=⟨fun s=>by
 unfold unaP
 split
 ·next hc=>exact(Sfx.next hc).trans (h.sfx _)
 ·exact h.sfx s,fun hf s=>by
 unfold unaP
 rw[mp_isS hf]
 split
 ·rw[mp_next,h.mp hf]
 ·exact h.mp hf s⟩
theorem rdy_sum:Rdy (sumP p):=rdy_chain (rdy_chain (rdy_una h) _) _
theorem rdy_inGo (a:Ex):∀(n:Nat) (e:Ex),Rdy (inGo p a n e)
 |0,_=>⟨fun s=>Sfx.refl s,fun _ _=>rfl⟩
 |n+1,e=>⟨fun s=>by
  rw[inGo]
  split
  ·next hc=>exact(Sfx.next hc).trans ((h.sfx _).trans ((rdy_inGo a n _).sfx _))
  ·exact Sfx.refl s,fun hf s=>by
  rw[inGo,inGo,mp_isS hf]
  split
  ·rw[mp_next,h.mp hf]
   exact(rdy_inGo a n _).mp hf _
  ·rfl⟩
theorem rdy_in (a:Ex):Rdy (inP p a):=⟨fun s=> (h.sfx s).trans ((rdy_inGo h a _ _).sfx _),fun hf s=>by
 unfold inP
 rw[mp_len,h.mp hf]
 exact(rdy_inGo h a _ _).mp hf _⟩
theorem rdy_tail (a:Ex):Rdy (tailP p a):=⟨fun s=>by
 unfold tailP
 split
 ·exact(sfx_first _ s).trans (h.sfx _)
 split
 ·next hc=>exact(Sfx.next hc).trans ((sfx_opt _ _).trans (sfx_need _ _))
 split
 ·next hc=>exact(sfx_opt _ _).trans ((Sfx.next hc).trans ((rdy_tak (by omega)).sfx _))
 split
 ·next hc=>exact(sfx_opt _ _).trans ((Sfx.next hc).trans ((h.sfx _).trans ((sfx_need _ _).trans (h.sfx _))))
 split
 ·next hc=>exact(sfx_opt _ _).trans ((Sfx.next hc).trans ((sfx_need _ _).trans (((rdy_in h a).sfx _).trans (sfx_need _ _))))
 ·simp only
  split
  ·exact(sfx_opt _ _).trans (Sfx.fail _)
  ·exact Sfx.refl s,fun hf s=>by
 unfold tailP
 rw[mp_first hf]
 cases (firstP opsCmp s).1 with
 |some o=>simp only;rw[h.mp hf]
 |none=>
  have h4:=fun s=> (rdy_tak (k:=4) (by omega)).mp hf s
  simp only[mp_isS hf,mp_opt hf,mp_next,mp_need hf,h.mp hf,h4,(rdy_in h a).mp hf,mp_fail]
  split
  ·rfl
  split
  ·rfl
  split
  ·rfl
  split
  ·rfl
  split<;>rfl⟩
theorem rdy_test:Rdy (testP p):=⟨fun s=> ((rdy_sum h).sfx s).trans ((rdy_tail (rdy_sum h) _).sfx _),fun hf s=>by
 unfold testP
 rw[(rdy_sum h).mp hf]
 exact(rdy_tail (rdy_sum h) _).mp hf _⟩
theorem rdy_notGo:∀n,Rdy (notGo p n)
 |0=>rdy_test h
 |n+1=>⟨fun s=>by
  rw[notGo]
  split
  ·next hc=>exact(Sfx.next hc).trans ((rdy_notGo n).sfx _)
  ·exact(rdy_test h).sfx s,fun hf s=>by
  rw[notGo,notGo,mp_isS hf]
  split
  ·rw[mp_next,(rdy_notGo n).mp hf]
  ·exact(rdy_test h).mp hf s⟩
theorem rdy_not:Rdy (notP p):=⟨fun s=> (rdy_notGo h _).sfx s,fun hf s=>by
 unfold notP
 rw[mp_len]
 exact(rdy_notGo h _).mp hf s⟩
theorem rdy_or:Rdy (orP p):=rdy_chain (rdy_chain (rdy_not h) _) _
theorem rdy_prim:Rdy (primP p):=⟨fun s=>by
 unfold primP
 split
 ·exact rdy_num.sfx s
 split
 ·exact(rdy_tak (by omega)).sfx s
 split
 ·next hc=>exact Sfx.next hc
 split
 ·next hc=>exact(Sfx.next hc).trans ((sfx_need _ _).trans ((h.sfx _).trans (sfx_need _ _)))
 split
 ·next hc=>exact(Sfx.next hc).trans ((h.sfx _).trans (sfx_need _ _))
 ·exact rdy_col.sfx s,fun hf s=>by
 have h4:=fun s=> (rdy_tak (k:=4) (by omega)).mp hf s
 unfold primP
 simp only[mp_isS hf,mp_hasK hf,mp_next,mp_need hf,h.mp hf,h4,rdy_num.mp hf,rdy_col.mp hf]
 split
 ·rfl
 split
 ·rfl
 split
 ·rfl
 split
 ·rfl
 split<;>rfl⟩
end
theorem rdy_expr:∀n,Rdy (exprP n)
 |0=>⟨fun s=>Sfx.refl s,fun _ _=>rfl⟩
 |n+1=>rdy_or (rdy_prim (rdy_expr n))
theorem rdy_elem {ex:M Ex} (h:Rdy ex) (d:Df) (l:List ByteArray):Rdy (elemP ex d l):=by
 unfold elemP namesP refP defP namesP typP bnd2P maxP bndP
 repeat' first
  |exact h
  |exact rdy_tak (by omega)
  |exact rdy_num
  |exact rdy_ret _
  |exact rdy_need _
  |apply rdy_list
  |apply rdy_if
  |apply rdy_bnd
  |intro _
theorem rdy_elemGo {ex:M Ex} (h:Rdy ex):∀(n:Nat) (d:Df) (l:List ByteArray),Rdy (elemGo ex n d l)
 |0,_,_=>rdy_ret _
 |n+1,d,l=>rdy_if _ (rdy_bnd (rdy_elem h d l) fun x=>rdy_elemGo h n x.1 x.2) (rdy_ret _)
theorem rdy_elems {ex:M Ex} (h:Rdy ex):Rdy (elemsP ex):=⟨fun s=> (rdy_bnd (rdy_elem h ⟨[],[],[],[]⟩ []) fun x=>rdy_elemGo h (s.r.length+1) x.1 x.2).sfx s,fun hf s=>by
 unfold elemsP
 rw[mp_len]
 exact(rdy_bnd (rdy_elem h ⟨[],[],[],[]⟩ []) fun x=>rdy_elemGo h (s.r.length+1) x.1 x.2).mp hf s⟩
theorem rdy_src:Rdy srcP:=by
 unfold srcP
 repeat' first
  |exact rdy_tak (by omega)
  |exact rdy_ret _
  |apply rdy_if
  |apply rdy_bnd
  |intro _
theorem rdy_fromGo {ex:M Ex} (h:Rdy ex):∀(n:Nat) (l:List Src) (c:List Ex),Rdy (fromGo ex n l c)
 |0,_,_=>rdy_ret _
 |n+1,l,c=>rdy_if _ (rdy_bnd rdy_src fun x=>rdy_fromGo h n _ _) (rdy_if _ (rdy_bnd rdy_src fun x=>rdy_bnd (rdy_need _) fun _=>rdy_bnd h fun e=>rdy_fromGo h n _ _) (rdy_ret _))
theorem rdy_from {ex:M Ex} (h:Rdy ex):Rdy (fromP ex):=⟨fun s=> (rdy_bnd rdy_src fun x=>rdy_fromGo h (s.r.length+1) [x] []).sfx s,fun hf s=>by
 unfold fromP
 rw[mp_len]
 exact(rdy_bnd rdy_src fun x=>rdy_fromGo h (s.r.length+1) [x] []).mp hf s⟩
theorem rdy_stmt {ex:M Ex} (h:Rdy ex) (k:List Ex→Ex):Rdy (stmtP ex posP k lastP):=by
 have h0:Rdy (fun s:Ps=> (stZ,s.fail)):=⟨fun s=>Sfx.fail s,fun _ _=>rfl⟩
 unfold stmtP createP insertP updateP deleteP queryP itmsP itmP itm1 condP grpP ordsP limP tupP asgP whrP nmP lastP ordP
 repeat' first
  |exact h
  |exact h0
  |exact rdy_tak (by omega)
  |exact rdy_num
  |exact rdy_pos
  |exact rdy_col
  |exact rdy_ret _
  |exact rdy_need _
  |exact rdy_elems h
  |exact rdy_from h
  |apply rdy_list
  |apply rdy_if
  |apply rdy_fst
  |apply rdy_bnd
  |split
  |intro _
theorem rdy_stm (n:Nat):Rdy (stmP n):=rdy_stmt (rdy_expr n) _
def Ended (s:Ps):Prop:=∃A z,s.r=A++ [z]∧z.kind=0∧∀a∈A,a.kind≠0
theorem Ended.hd {s:Ps} (h:Ended s):s.hd∈s.r:=by
 obtain⟨A,z,h1,_⟩:=h
 unfold Ps.hd
 cases hr:s.r with
 |nil=>rw[hr]at h1;simp at h1
 |cons a l=>simp
end
section
open Lx (Tk isDigit isLetter inWord spanN isPrint)
def parS (vld:St→Int) (s:ByteArray):St×Int×Int:=
 match Lx.tokAll s with
 | .bad a e=> (stZ,(a:Int),(e:Int))
 | .ok L=>
  match wholeP (stmP (L.length+1)) L with
  | .inl a=> (stZ,(a:Int),2)
  | .inr x=>if vld x=0 then (x,0,0)else (stZ,((⟨L,false⟩:Ps).hd.pos:Int),vld x)
def parE (vld:Ex→Int) (s:ByteArray):Ex×Int×Int:=
 match Lx.tokAll s with
 | .bad a e=> (exZ,(a:Int),(e:Int))
 | .ok L=>
  match wholeP (exprP (L.length+1)) L with
  | .inl a=> (exZ,(a:Int),2)
  | .inr x=>if vld x=0 then (x,0,0)else (exZ,((⟨L,false⟩:Ps).hd.pos:Int),vld x)
end
end Go.Proofs.YtjigcpfjhfoheaaGreatDoor
