/- Walks: the reference's well-formed statements; Walks: the reference's well-formed rows, assignments and queries; Walks: the reference's texts of definitions; Walks: the text of a query, and of a statement; Walks: the reference's t. -/
import Derived.Test.YtjigcpfjhfoheaaGreatDoorVai
namespace Go.Proofs.YtjigcpfjhfoheaaGreatDoor
open Go.RowKit List Go.Proofs.Tryz
set_option maxHeartbeats 4000000
set_option maxRecDepth 100000
set_option linter.unusedVariables false
set_option linter.unusedSimpArgs false
theorem bQ {α:Type} {l:List α} {k:Nat} {x:α} {p:α→Bool} (h:l[k]? =some x) (a:(l.take k).all p=true) (b:p x=true):(l.take (k+1)).all p=true:=by
 rw[ez h,all_append,a]
 simp[b]
theorem bR {α:Type} {l:List α} {k:Nat} {x:α} {p:α→Bool} (h:l[k]? =some x) (a:p x=false):l.all p=false:=by
 rw[all_eq_false]
 exact⟨x,mem_of_getElem? h,by simp[a]⟩
theorem dm {α:Type} {l:List α} {k:Nat} {p:α→Bool} (h:l.length=k) (a:(l.take k).all p=true):l.all p=true:=by
 rwa [take_of_length_le (by omega)]at a
theorem uM (x:Cd) (w:World) (t:x.nm.size≤9223372036854775807∧I64 x.ty∧I64 x.lo∧I64 x.hi∧I64 x.mx):
  Cl 217 #[.agg #[.string x.nm,i4 x.ty,i4 x.lo,i4 x.hi,i4 x.mx,.bool x.nn]] w (Rt (.bool x.ok) w):=by
 have g:=hid (fun W=>bP x.nm W t.1)
 have z:=hid (fun W=>ik x.mx W)
 obtain⟨R,e⟩:∃R,x.ok=R:=⟨_,rfl⟩
 rw[e]
 unfold Cd.ok inB at e
 obtain⟨nm,ty,lo,hi,mx,nn⟩:=x
 simp only at*
 clear t
 generalize nameB nm=A at*
 obtain⟨c1,i⟩:∃b,(ty==1)=b:=⟨_,rfl⟩
 obtain⟨c2,j⟩:∃b,(ty==2)=b:=⟨_,rfl⟩
 obtain⟨l1,n⟩:∃b,decide (-2147483648≤lo)=b:=⟨_,rfl⟩
 obtain⟨K,o⟩:∃b,decide (lo≤2147483648)=b:=⟨_,rfl⟩
 obtain⟨H,k⟩:∃b,decide (-2147483648≤hi)=b:=⟨_,rfl⟩
 obtain⟨I,l⟩:∃b,decide (hi≤2147483648)=b:=⟨_,rfl⟩
 obtain⟨O,s⟩:∃b,(mx==0)=b:=⟨_,rfl⟩
 obtain⟨L,p⟩:∃b,(lo==0)=b:=⟨_,rfl⟩
 obtain⟨J,m⟩:∃b,(hi==0)=b:=⟨_,rfl⟩
 rw[i,j,n,o,k,l,s,p,m]at e
 generalize (decide (0≤mx) &&decide (mx≤2147483648))=u at*
 have h:=hid e
 clear e
 cases A
 ·go_enter func217,ntmps217
  go_wp2_with (go_at_call 144;refine(g _).mono ?_;rintro _ y ⟨rfl,a⟩)
  go_ret
  exact⟨aa (by rw[←h.out];simp),(x10 w _).trans a⟩
 ·cases c1
  ·cases c2<;>cases L<;>cases J
   all_goals
    have f:=hid (Blk.of_new w 99 [.string nm,i4 ty,i4 lo,i4 hi,i4 mx,.bool nn])
    go_enter func217,ntmps217
    go_wp2_with (first|(go_at_call 144;refine(g _).mono ?_;rintro _ y ⟨rfl,a⟩;obtain⟨B,C,D,E,F,G,-⟩:=cls (f.ext a))|(go_at_call 219;refine(z _).mono ?_;rintro _ _ ⟨rfl,rfl⟩))
    go_ret
    exact⟨aa (by rw[←h.out];simp),(x10 w _).trans a⟩
  ·cases l1<;>cases K<;>cases H<;>cases I
   all_goals
    have f:=hid (Blk.of_new w 99 [.string nm,i4 ty,i4 lo,i4 hi,i4 mx,.bool nn])
    go_enter func217,ntmps217
    go_wp2_with (first|(go_at_call 144;refine(g _).mono ?_;rintro _ y ⟨rfl,a⟩;obtain⟨B,C,D,E,F,G,-⟩:=cls (f.ext a)))
    go_ret
    exact⟨aa (by rw[←h.out];simp),(x10 w _).trans a⟩
theorem lD (l:List BA) (A:OA) (n c:Nat) (w:World) (p:l.length=n) (J:n≤9223372036854775807) (C:bi w A l):
  Cl 218 #[.slice A n c] w (Rt (.bool (namesB l)) w):=by
 have z:=hid p
 have D:=hid C
 obtain⟨R,o⟩:∃R,namesB l=R:=⟨_,rfl⟩
 rw[o]
 rw[ro,kI,Bool.not_not,p]at o
 have B:=hid o
 clear p C o
 go_enter func218,ntmps218
 go_wp2_with fail
 go_loopw [3] (fun G wr=> ∃(k:Nat),k≤n∧G= i4 k∧(l.take k).all nameB=true∧Ext w wr) (fun i _=>n- (intOf i).toNat)
 case atStart=>exact⟨0,Nat.zero_le _,rfl,rfl,Ext.refl w⟩
 case round=>
  obtain⟨k,F,rfl,t,f⟩:=hrel
  have a:=hid f
  have j:=hid t
  by_cases s:k<n
  ·obtain⟨x,u⟩:=aC z s
   obtain⟨E,b,H,rfl,K⟩:=(D.ext f) k x u
   have y:=hid u
   have m:=hid (bP x wr E)
   clear u f t
   cases g:nameB x
   ·have h:Hid (l.all nameB=false):=bR y g
    rw[g]at m
    clear g
    go_wp2_with (go_at_call 144;refine m.mono ?_;rintro _ I ⟨rfl,e⟩)
    go_ret
    exact⟨aa (by rw[←B.out,h.out];simp),a.trans e⟩
   ·have h:Hid ((l.take (k+1)).all nameB=true):=bQ y j g
    rw[g]at m
    clear g
    go_wp2_with (go_at_call 144;refine m.mono ?_;rintro _ I ⟨rfl,e⟩)
    go_roundw
    case rel=>exact⟨k+1,by omega,by go_num,h,a.trans e⟩
    case measure=>simp[intOf];omega
  ·obtain rfl:k=n:=by omega
   have h:Hid (l.all nameB=true):=dm z j
   clear t
   go_wp2_with fail
   go_ret
   exact⟨aa (by rw[←B.out,h.out];simp),a⟩
theorem wI (s : St) (a : SA) (w : World) (F : StV w s a) (L : s.cols.length + s.keys.length + s.frs.length + s.chk.length ≤ 1048576) :
    Cl 146 #[.agg #[a.cols.v, a.keys.v, a.frs.v, a.chk.v]] w fun r w' => r = .returned (.bool s.defOk) ∧ Ext w w' := by
  have z := hid F
  rw [F.cols.1, F.keys.1, F.frs.1, F.chk.1] at L
  obtain ⟨R, X⟩ : ∃ R, s.defOk = R := ⟨_, rfl⟩
  rw [X]
  unfold St.defOk St.noDef at X
  rw [F.cols.1, F.keys.1, F.frs.1, F.chk.1] at X
  have J := hid X
  clear F X
  unfold Sl.v
  have U := hid (Blk.of_new w 29 [.slice a.cols.A a.cols.n a.cols.c, .slice a.keys.A a.keys.n a.keys.c, .slice a.frs.A a.frs.n a.frs.c, .slice a.chk.A a.chk.n a.chk.c])
  have C := hid (x10 w (.cells #[.slice a.cols.A a.cols.n a.cols.c, .slice a.keys.A a.keys.n a.keys.c, .slice a.frs.A a.frs.n a.frs.c, .slice a.chk.A a.chk.n a.chk.c] 29))
  go_enter func146, ntmps146
  go_wp2_with fail
  generalize w.alloc (.cells _ 29) = w1 at *
  go_loopw [3] (fun Q wr => ∃ (k : Nat), k ≤ a.cols.n ∧ Q = i4 k ∧ (s.cols.take k).all Cd.ok = true ∧ Ext w1 wr) (fun i _ => a.cols.n - (intOf i).toNat)
  case atStart => exact ⟨0, Nat.zero_le _, rfl, rfl, Ext.refl _⟩
  case round =>
    obtain ⟨k, O, rfl, t, f⟩ := hrel
    have h := hid f
    have j := hid t
    have o := (U.ext f).cell 0
    simp only [getElem?_cons_succ, getElem?_cons_zero] at o
    by_cases p : k < a.cols.n
    · obtain ⟨x, u⟩ := aC z.cols.1 p
      obtain ⟨hc, b, y, D, q0, q1, q2, q3, q4, q5⟩ := (z.cols.2.2.ext (C.trans f)) k x u
      rw [D] at o
      clear D
      have m := hid (uM x wr hc)
      have B := hid u
      clear u f t
      cases hp : Cd.ok x
      · have g : Hid (s.cols.all Cd.ok = false) := bR B hp
        rw [hp] at m
        clear hp
        go_wp2_with (go_at_call 217; refine m.mono ?_; rintro _ H ⟨rfl, e⟩)
        go_ret
        exact ⟨aa (by rw [← J.out, g.out]; simp), C.trans (h.trans e)⟩
      · have g : Hid ((s.cols.take (k + 1)).all Cd.ok = true) := bQ B j hp
        rw [hp] at m
        clear hp
        go_wp2_with (go_at_call 217; refine m.mono ?_; rintro _ H ⟨rfl, e⟩)
        go_roundw
        case rel => exact ⟨k + 1, by omega, by go_num, g, h.trans e⟩
        case measure => simp [intOf]; omega
    · obtain rfl : k = a.cols.n := by omega
      have E : Hid (s.cols.all Cd.ok = true) := dm z.cols.1 j
      clear t
      have ac := E
      go_wp2_with fail
      clear E o
      clear f j
      go_loopw [4] (fun Q wr => ∃ (k : Nat), k ≤ a.keys.n ∧ Q = i4 k ∧ (s.keys.take k).all namesB = true ∧ Ext w1 wr) (fun i _ => a.keys.n - (intOf i).toNat)
      case atStart => exact ⟨0, Nat.zero_le _, rfl, rfl, h⟩
      case round =>
        obtain ⟨k, O, rfl, t, f⟩ := hrel
        have h := hid f
        have j := hid t
        have o := (U.ext f).cell 1
        simp only [getElem?_cons_succ, getElem?_cons_zero] at o
        by_cases p : k < a.keys.n
        · obtain ⟨x, u⟩ := aC z.keys.1 p
          obtain ⟨b, y, Ai, ni, ci, D, q0, K, Z, V⟩ := (z.keys.2.2.ext (C.trans f)) k x u
          rw [D] at o
          clear D
          have m := hid (lD x Ai ni ci wr K Z V)
          clear V
          have B := hid u
          clear u f t
          cases hp : namesB x
          · have g : Hid (s.keys.all namesB = false) := bR B hp
            rw [hp] at m
            clear hp
            go_wp2_with (go_at_call 218; refine m.mono ?_; rintro _ H ⟨rfl, e⟩)
            go_ret
            exact ⟨aa (by rw [← J.out, g.out]; simp), C.trans (h.trans e)⟩
          · have g : Hid ((s.keys.take (k + 1)).all namesB = true) := bQ B j hp
            rw [hp] at m
            clear hp
            go_wp2_with (go_at_call 218; refine m.mono ?_; rintro _ H ⟨rfl, e⟩)
            go_roundw
            case rel => exact ⟨k + 1, by omega, by go_num, g, h.trans e⟩
            case measure => simp [intOf]; omega
        · obtain rfl : k = a.keys.n := by omega
          have E : Hid (s.keys.all namesB = true) := dm z.keys.1 j
          clear t
          have ag := E
          go_wp2_with fail
          clear E o
          clear f j
          go_loopw [5] (fun Q wr => ∃ (k : Nat), k ≤ a.frs.n ∧ Q = i4 k ∧ (s.frs.take k).all Rf.ok = true ∧ Ext w1 wr) (fun i _ => a.frs.n - (intOf i).toNat)
          case atStart => exact ⟨0, Nat.zero_le _, rfl, rfl, h⟩
          case round =>
            obtain ⟨k, O, rfl, t, f⟩ := hrel
            have h := hid f
            have j := hid t
            have o := (U.ext f).cell 2
            simp only [getElem?_cons_succ, getElem?_cons_zero] at o
            by_cases p : k < a.frs.n
            · obtain ⟨x, u⟩ := aC z.frs.1 p
              obtain ⟨h0, b, y, A1, n1, c1, A2, n2, c2, D, q0, q1, q2, K, Z, V, h4, h5, h6⟩ := (z.frs.2.2.ext (C.trans f)) k x u
              rw [D] at o
              clear D
              have H1 := hid (fun W (I : Ext wr W) => lD x.cs A1 n1 c1 W K Z (V.ext I))
              have H2 := hid (fun W (I : Ext wr W) => bP x.tb W h0)
              have H3 := hid (fun W (I : Ext wr W) => lD x.tg A2 n2 c2 W h4 h5 (h6.ext I))
              have B := hid u
              have Y : Hid (∀ W, Ext wr W → W.cell? ⟨w.heap.size, 2, none⟩ = some (.slice (some ⟨b, y, none⟩) a.frs.n a.frs.c) ∧ W.cell? ⟨b, y + k * 3 + 1, none⟩ = some (.string x.tb) ∧ W.cell? ⟨b, y + k * 3 + 2, none⟩ = some (.slice A2 n2 c2)) := fun W I => ⟨I.keep o, I.keep q1, I.keep q2⟩
              have G : Hid (x.ok = (namesB x.cs && nameB x.tb && namesB x.tg)) := rfl
              clear u f t h0 K Z V h4 h5 h6
              cases hp : Rf.ok x
              · have g : Hid (s.frs.all Rf.ok = false) := bR B hp
                rw [hp] at G
                clear hp
                generalize namesB x.cs = b1 at *
                generalize nameB x.tb = b2 at *
                generalize namesB x.tg = b3 at *
                cases b1 <;> cases b2 <;> cases b3
                all_goals
                  first
                    | exact absurd G.out (by decide)
                    | (go_wp2_with (first | (go_at_call 218; (with_reducible refine (H1.out _ (Ext.refl _)).mono ?_); rintro _ H ⟨rfl, e⟩; obtain ⟨d0, d1, d2⟩ := Y H e) | (go_at_call 144; (with_reducible refine (H2.out _ e).mono ?_); rintro _ w3 ⟨rfl, l⟩; obtain ⟨e0, e1, e2⟩ := Y w3 (e.trans l)) | (go_at_call 218; (with_reducible refine (H3.out _ (e.trans l)).mono ?_); rintro _ w4 ⟨rfl, P⟩))
                       go_ret
                       first
                         | exact ⟨aa (by rw [← J.out, g.out]; simp), C.trans (h.trans ((e.trans l).trans P))⟩
                         | exact ⟨aa (by rw [← J.out, g.out]; simp), C.trans (h.trans (e.trans l))⟩
                         | exact ⟨aa (by rw [← J.out, g.out]; simp), C.trans (h.trans e)⟩)
              · have g : Hid ((s.frs.take (k + 1)).all Rf.ok = true) := bQ B j hp
                rw [hp] at G
                clear hp
                have L := G.symm
                simp only [Bool.and_eq_true] at L
                rw [L.1.1] at H1
                rw [L.1.2] at H2
                rw [L.2] at H3
                clear L
                go_wp2_with (first | (go_at_call 218; (with_reducible refine (H1.out _ (Ext.refl _)).mono ?_); rintro _ H ⟨rfl, e⟩; obtain ⟨d0, d1, d2⟩ := Y H e) | (go_at_call 144; (with_reducible refine (H2.out _ e).mono ?_); rintro _ w3 ⟨rfl, l⟩; obtain ⟨e0, e1, e2⟩ := Y w3 (e.trans l)) | (go_at_call 218; (with_reducible refine (H3.out _ (e.trans l)).mono ?_); rintro _ w4 ⟨rfl, P⟩))
                go_roundw
                case rel => exact ⟨k + 1, by omega, by go_num, g, h.trans ((e.trans l).trans P)⟩
                case measure => simp [intOf]; omega
            · obtain rfl : k = a.frs.n := by omega
              have E : Hid (s.frs.all Rf.ok = true) := dm z.frs.1 j
              clear t
              have ad := E
              go_wp2_with fail
              clear E o
              clear f j
              go_loopw [6] (fun Q wr => ∃ (k : Nat), k ≤ a.chk.n ∧ Q = i4 k ∧ (s.chk.take k).all Ex.formed = true ∧ Ext w1 wr) (fun i _ => a.chk.n - (intOf i).toNat)
              case atStart => exact ⟨0, Nat.zero_le _, rfl, rfl, h⟩
              case round =>
                obtain ⟨k, O, rfl, t, f⟩ := hrel
                have h := hid f
                have j := hid t
                have o := (U.ext f).cell 3
                simp only [getElem?_cons_succ, getElem?_cons_zero] at o
                by_cases p : k < a.chk.n
                · obtain ⟨x, u⟩ := aC z.chk.1 p
                  obtain ⟨b, y, Ai, ni, ci, D, q0, q1, q2, q3, q4, q5, q6, q7, K⟩ := (z.chk.2.2.ext (C.trans f)).get u
                  rw [D] at o
                  clear D
                  have m := hid (dM x Ai ni ci wr K)
                  clear K
                  unfold Nd.val at m
                  have B := hid u
                  clear u f t
                  cases hp : Ex.formed x
                  · have g : Hid (s.chk.all Ex.formed = false) := bR B hp
                    rw [hp] at m
                    clear hp
                    go_wp2_with (go_at_call 84; refine m.mono ?_; rintro _ H ⟨rfl, e⟩)
                    go_ret
                    exact ⟨aa (by rw [← J.out, g.out]; simp), C.trans (h.trans e)⟩
                  · have g : Hid ((s.chk.take (k + 1)).all Ex.formed = true) := bQ B j hp
                    rw [hp] at m
                    clear hp
                    go_wp2_with (go_at_call 84; refine m.mono ?_; rintro _ H ⟨rfl, e⟩)
                    go_roundw
                    case rel => exact ⟨k + 1, by omega, by go_num, g, h.trans e⟩
                    case measure => simp [intOf]; omega
                · obtain rfl : k = a.chk.n := by omega
                  have E : Hid (s.chk.all Ex.formed = true) := dm z.chk.1 j
                  clear t
                  obtain ⟨an, ax, aS, -⟩ := cls (U.ext f)
                  clear f
                  have f1 : (IntKind.i64.wrap ((a.cols.n : Int) + (a.keys.n : Int))) = (a.cols.n : Int) + (a.keys.n : Int) := IntWalk.i64_in _ (by omega)
                  go_wp2_with fail
                  go_ret
                  refine ⟨aa ?_, C.trans h⟩
                  rw [← J.out, ac.out, ag.out, ad.out, E.out]
                  rw [Bool.eq_iff_iff]
                  simp
                  omega
theorem esz:(((⟨#[]⟩:BA)).size==0)=true:=rfl
theorem oy (e:Ex) (A:OA) (n c:Nat) (w:World) (z:ExV w e A n c):
  Cl 145 #[e.d.val A n c] w (Rt (.bool e.absent) w):=by
 have p:e.absent=(e.d.op==0&&e.d.tb.size==0&&e.d.nm.size==0&& (e.d.vk==0&&e.d.vi==0&&e.d.vt.size==0) &&decide (n=0)):=by
  unfold Ex.absent Nd.valZ
  congr 1
  have h:=z.len
  cases y:e.ks with
  |nil=>rw[y]at h;simp at h;simp[←h]
  |cons a l=>rw[y]at h;simp at h;simp;omega
 generalize e.absent=R at*
 unfold Nd.val
 generalize e.d=d at*
 obtain⟨op,tb,nm,ix,vk,vi,vt⟩:=d
 simp only at*
 clear z
 obtain⟨o,x⟩:∃b,(op==0)=b:=⟨_,rfl⟩
 obtain⟨C,t⟩:∃b,(vk==0)=b:=⟨_,rfl⟩
 obtain⟨B,s⟩:∃b,(vi==0)=b:=⟨_,rfl⟩
 have u:((n:Int)==0)=decide (n=0):=by rw[Bool.eq_iff_iff];simp
 obtain⟨F,m⟩:∃b,decide (n=0)=b:=⟨_,rfl⟩
 rw[x,t,s,m]at p
 rw[m]at u
 have g:=hid p
 clear p m
 by_cases i:tb.size=0
 ·obtain rfl:=bF i
  simp only[esz]at g
  by_cases k:nm.size=0
  ·obtain rfl:=bF k
   simp only[esz]at g
   by_cases f:vt.size=0
   ·obtain rfl:=bF f
    simp only[esz]at g
    clear i k f
    cases o<;>cases C<;>cases B
    all_goals
     go_enter func145,ntmps145
     go_wp2_with fail
     go_ret
     exact⟨aa (by rw[g.out];simp),x10 w _⟩
   ·have D:=bV f
    have E:=bH f
    have j:(vt.size==0)=false:=by simpa using f
    rw[j]at g
    clear i k f j
    cases o<;>cases C<;>cases B
    all_goals
     go_enter func145,ntmps145
     go_wp2_with fail
     go_ret
     exact⟨aa (by rw[g.out];simp),x10 w _⟩
  ·have D:=bV k
   have E:=bH k
   have j:(nm.size==0)=false:=by simpa using k
   rw[j]at g
   clear i k j
   cases o
   all_goals
    go_enter func145,ntmps145
    go_wp2_with fail
    go_ret
    exact⟨aa (by rw[g.out];simp),x10 w _⟩
 ·have D:=bV i
  have E:=bH i
  have j:(tb.size==0)=false:=by simpa using i
  rw[j]at g
  clear i j
  cases o
  all_goals
   go_enter func145,ntmps145
   go_wp2_with fail
   go_ret
   exact⟨aa (by rw[g.out];simp),x10 w _⟩
theorem uN (L:List (List Ex)) (A:OA) (n c:Nat) (w:World) (X:L.length=n) (hn:n≤9223372036854775807) (V:ep w A L) (Y:∀l∈L,l.length≤9223372036854775807):
  Cl 147 #[.slice A n c] w (Rt (.bool (decide (0<n) &&L.all rowOk)) w):=by
 have Q:=hid X
 have HK:=hid V
 have HM:=hid Y
 clear X V Y
 go_enter func147,ntmps147
 go_wp2_with fail
 go_loopw [3] (fun iv wr=> ∃(k:Nat),k≤n∧iv= i4 k∧(L.take k).all rowOk=true∧Ext w wr) (fun i _=>n- (intOf i).toNat)
 case atStart=>exact⟨0,Nat.zero_le _,rfl,rfl,Ext.refl w⟩
 case round=>
  obtain⟨k,ad,rfl,J,t⟩:=hrel
  have g:=hid t
  have D:=hid J
  by_cases I:k<n
  ·obtain⟨l,h⟩:=aC Q I
   obtain⟨b,an,Ai,y,ci,rfl,O,H,R⟩:=(HK.ext t) k l h
   have G:=hid h
   have ag:y≤9223372036854775807:=by have:=HM l (mem_of_getElem? h);omega
   have P:=hid H
   have H2:=hid R
   have HQ:=hid (fun W (hW:Ext wr W)=>hW.keep O)
   have a:Hid (rowOk l=(decide (0<y) &&l.all Ex.formed)):=by unfold Hid rowOk;rw[H]
   clear h t J H R
   go_wp2_with fail
   clear O
   go_loopw [4] (fun jv w2=> ∃(j:Nat),j≤y∧jv= i4 j∧(l.take j).all Ex.formed=true∧Ext wr w2) (fun j _=>y- (intOf j).toNat)
   case atStart=>exact⟨0,Nat.zero_le _,rfl,rfl,Ext.refl wr⟩
   case round=>
    rename_i w2 _ _
    obtain⟨j,ac,rfl,p,e⟩:=hrel
    have f:=hid e
    have C:=hid p
    have O:=HQ _ e
    by_cases E:j<y
    ·obtain⟨x,h⟩:=aC P E
     obtain⟨b2,Z,Aj,nj,cj,rfl,p0,p1,p2,p3,p4,p5,p6,p7,U⟩:=(H2.ext e).get h
     have z:=hid (dM x Aj nj cj _ U)
     have B:=hid h
     unfold Nd.val at z
     clear h U e p
     cases u:x.formed
     ·have m:Hid (L.all rowOk=false):=bR G (by rw[a.out,bR B.out u];simp)
      rw[u]at z
      clear u
      go_wp2_with (go_at_call 84;refine z.mono ?_;rintro _ w3 ⟨rfl,s⟩)
      go_ret
      exact⟨aa (by rw[m.out];simp),g.trans (f.trans s)⟩
     ·have m:Hid ((l.take (j+1)).all Ex.formed=true):=bQ B C u
      rw[u]at z
      clear u
      go_wp2_with (go_at_call 84;refine z.mono ?_;rintro _ w3 ⟨rfl,s⟩)
      go_roundw
      case rel=>exact⟨j+1,by omega,by go_num,m,f.trans s⟩
      case measure=>simp[intOf];omega
    ·obtain rfl:j=y:=by omega
     have m:Hid (l.all Ex.formed=true):=dm P C
     clear p e
     by_cases F:j=0
     ·have K:((j:Int)==0)=true:=by simp[F]
      have o:Hid (L.all rowOk=false):=bR G (by rw[a.out];simp[F])
      clear F
      go_wp2_with fail
      go_ret
      exact⟨aa (by rw[o.out];simp),g.trans f⟩
     ·have K:((j:Int)==0)=false:=by simp[F]
      have o:Hid ((L.take (k+1)).all rowOk=true):=bQ G D (by rw[a.out,m.out];simp;omega)
      clear F
      go_wp2_with fail
      go_roundw
      case rel=>exact⟨k+1,by omega,by go_num,o,g.trans f⟩
      case measure=>simp[intOf];omega
  ·obtain rfl:k=n:=by omega
   have m:Hid (L.all rowOk=true):=dm Q D
   clear J
   go_wp2_with fail
   go_ret
   exact⟨aa (by rw[m.out];simp),g⟩
theorem rsets_any (L:List Asg) (A:OA) (n c:Nat) (w:World) (P:L.length=n) (hn:n≤9223372036854775807) (O:fM w A L):
  Cl 148 #[.slice A n c] w (Rt (.bool (decide (0<n) &&L.all Asg.ok)) w):=by
 have H:=hid P
 have G:=hid O
 clear P O
 go_enter func148,ntmps148
 go_wp2_with fail
 go_loopw [3] (fun iv wr=> ∃(k:Nat),k≤n∧iv= i4 k∧(L.take k).all Asg.ok=true∧Ext w wr) (fun i _=>n- (intOf i).toNat)
 case atStart=>exact⟨0,Nat.zero_le _,rfl,rfl,Ext.refl w⟩
 case round=>
  obtain⟨k,ac,rfl,E,j⟩:=hrel
  have h:=hid j
  have u:=hid E
  by_cases D:k<n
  ·obtain⟨x,B⟩:=aC H D
   have y:=((G.ext j) k x B).1.1
   have z:=G.ext j
   obtain⟨b,e,F,Q,J,rfl,q0,q1,R,U,V,X,Y,Z,q8,q9,K⟩:=fV z B
   have t:=hid (bP x.cl wr y)
   have s:=hid (fun W (g:Ext wr W)=>dM x.ex F Q J W (K.ext g))
   have C:=hid B
   have I:Hid (∀W,Ext wr W→W.cell? ⟨b,e+k*10+2,none⟩=some (i4 x.ex.d.op)∧W.cell? ⟨b,e+k*10+3,none⟩=some (.string x.ex.d.tb)∧W.cell? ⟨b,e+k*10+4,none⟩=some (.string x.ex.d.nm)∧W.cell? ⟨b,e+k*10+5,none⟩=some (i4 x.ex.d.ix)∧W.cell? ⟨b,e+k*10+6,none⟩=some (i4 x.ex.d.vk)∧W.cell? ⟨b,e+k*10+7,none⟩=some (i4 x.ex.d.vi)∧W.cell? ⟨b,e+k*10+8,none⟩=some (.string x.ex.d.vt)∧W.cell? ⟨b,e+k*10+9,none⟩=some (.slice F Q J)):=fun W g=>⟨g.keep R,g.keep U,g.keep V,g.keep X,g.keep Y,g.keep Z,g.keep q8,g.keep q9⟩
   have f:Hid (Asg.ok x=(nameB x.cl&&x.ex.formed)):=rfl
   unfold Nd.val at s
   clear B j E K z y q1 R U V X Y Z q8 q9
   cases m:nameB x.cl
   ·have l:Hid (L.all Asg.ok=false):=bR C (by rw[f.out,m];rfl)
    rw[m]at t
    clear m
    go_wp2_with (go_at_call 144;refine t.mono ?_;rintro _ w2 ⟨rfl,a⟩)
    go_ret
    exact⟨aa (by rw[l.out];simp),h.trans a⟩
   ·rw[m]at t
    cases p:x.ex.formed
    ·have l:Hid (L.all Asg.ok=false):=bR C (by rw[f.out,p];simp)
     rw[p]at s
     clear m p
     go_wp2_with (first|(go_at_call 144;refine t.mono ?_;rintro _ w2 ⟨rfl,a⟩;obtain⟨e2,e3,e4,e5,e6,e7,e8,e9⟩:=I _ a)|(go_at_call 84;refine(s _ a).mono ?_;rintro _ w3 ⟨rfl,o⟩))
     go_ret
     exact⟨aa (by rw[l.out];simp),h.trans (a.trans o)⟩
    ·have l:Hid ((L.take (k+1)).all Asg.ok=true):=bQ C u (by rw[f.out,m,p];rfl)
     rw[p]at s
     clear m p
     go_wp2_with (first|(go_at_call 144;refine t.mono ?_;rintro _ w2 ⟨rfl,a⟩;obtain⟨e2,e3,e4,e5,e6,e7,e8,e9⟩:=I _ a)|(go_at_call 84;refine(s _ a).mono ?_;rintro _ w3 ⟨rfl,o⟩))
     go_roundw
     case rel=>exact⟨k+1,by omega,by go_num,l,h.trans (a.trans o)⟩
     case measure=>simp[intOf];omega
  ·obtain rfl:k=n:=by omega
   have l:Hid (L.all Asg.ok=true):=dm H u
   clear E
   go_wp2_with fail
   go_ret
   exact⟨aa (by rw[l.out];simp),h⟩
theorem cma_take {l:List BA} {k:Nat} {x:BA} (h:l[k]? =some x) (e:0<k):cma (l.take (k+1))=cma (l.take k)++jQ++x:=by
 rw[ez h]
 refine cma_step _ ?_ x
 intro b
 have:=(List.getElem?_eq_some_iff.1 h).1
 have a:(l.take k).length=k:=by rw[length_take];omega
 rw[b]at a
 simp at a
 omega
theorem cma_first {l:List BA} {x:BA} (h:l[0]? =some x):cma (l.take (0+1))=x:=by
 rw[ez h];rfl
theorem jg (l:List BA) (A:OA) (n c:Nat) (w:World) (s:l.length=n) (p:bi w A l) (t:bX l≤1000000000):
  Cl 87 #[.slice A n c] w (Rt (.string (cma l)) w):=by
 have j:=hid s
 have u:=hid p
 have m:=hid t
 have H:n≤1000000000:=by have:=uI l;omega
 clear s p t
 go_enter func87,ntmps87
 go_wp2_with fail
 go_loopw [3,4] (fun E C wr=> ∃(k:Nat),k≤n∧C= i4 k∧E= .string (cma (l.take k))∧Ext w wr) (fun _ i _=>n- (intOf i).toNat)
 case atStart=>exact⟨0,Nat.zero_le _,rfl,rfl,Ext.refl w⟩
 case round=>
  obtain⟨k,y,rfl,rfl,a⟩:=hrel
  have e:=hid a
  by_cases h:k<n
  ·obtain⟨x,f⟩:=aC j h
   obtain⟨G,b,D,rfl,F⟩:=(u.ext a) k x f
   have z:x.size≤1000000000:=by have:=fG (mem_of_getElem? f);have:=m.out;omega
   have B:(cma (l.take k)).size≤1000000000:=Nat.le_trans (aW _) (Nat.le_trans (sumS_take l k) m)
   by_cases o:k=0
   ·subst o
    have hd:decide ((0:Int)<((0:Nat):Int))=false:=by decide
    have g:Hid (cma (l.take (0+1))=cma (l.take 0)++x):=by
     unfold Hid
     rw[cma_first f]
     apply N_inj
     show _=(List.map _ (([]:List UInt8)++x.data.toList))
     rfl
    clear f a
    generalize cma (l.take 0)=T at*
    rw[Nat.add_zero]at F
    go_wp2_with fail
    go_roundw
    case rel=>exact⟨0+1,by omega,by go_num,by rw[g.out],e⟩
    case measure=>simp[intOf];omega
   ·have hd:0<k:=by omega
    have g:=hid (cma_take f hd)
    unfold jQ at g
    clear f a o
    generalize cma (l.take k)=T at*
    go_wp2_with fail
    go_roundw
    case rel=>exact⟨k+1,by omega,by go_num,by rw[g.out],e⟩
    case measure=>simp[intOf];omega
  ·obtain rfl:k=n:=by omega
   rw[take_of_length_le (Nat.le_of_eq j)]
   go_wp2_with fail
   go_ret
   exact⟨rfl,e⟩
theorem eu (l:List BA) (v:Value) (B n:Nat) (w:World) (h:w.ownsRow B 9 1 v n (fH l)) (e:bX l≤1000000000):
  Cl 87 #[v] w (Rt (.string (cma l)) w):=by
 obtain⟨A,c,rfl,a,b⟩:=pN h fun s hs=>by have:=fG hs;omega
 exact jg l A n c w b a e
theorem pO (l : List Ex) (A : OA) (n c : Nat) (w : World) (O : l.length = n) (L : KidsAt w A l) (C : l.all Ex.formed = true) (hs : sizeL l ≤ 1000) :
    Cl 86 #[.slice A n c] w fun r w' => r = .returned (.string (exsT l)) ∧ Ext w w' := by
  obtain ⟨i0, hi, F, G, H⟩ := info_parts gN
  have J := hid O
  have V := hid L
  have R := hid C
  have W := hid hs
  have hn : n ≤ 1000 := by have h : l.length ≤ sizeL l := by rw [← jf]; exact bW (fun a => dX a) l
                           omega
  have Y : Hid (bX (l.map fun e => e.tx 1) ≤ 1000000000) := Nat.le_trans (gL C) (by omega)
  clear O L C hs
  unfold exsT
  go_enter func86, ntmps86
  go_wp2_with fail
  have z := hid (fF w 9 1 0 0 0 w.heap.size #[] (Nat.le_refl _) rfl (by decide))
  go_loopw [3, 4] (fun nv iv wr => ∃ (k : Nat), k ≤ n ∧ iv = i4 k ∧ wr.ownsRow w.heap.size 9 1 nv k (fH ((l.take k).map fun e => e.tx 1)) ∧ Ext w wr) (fun _ i _ => n - (intOf i).toNat)
  case atStart => exact ⟨0, Nat.zero_le _, rfl, z, x10 w _⟩
  case round =>
    obtain ⟨k, ac, rfl, m, s⟩ := hrel
    have u := hid m
    have o := hid s
    clear m
    by_cases E : k < n
    · obtain ⟨x, t⟩ := aC J E
      obtain ⟨b, ad, Q, ni, ci, rfl, q0, q1, q2, q3, q4, q5, q6, q7, K⟩ := (V.ext s).get t
      have X : Hid ((l.take (k + 1)).map (fun e => e.tx 1) = (l.take k).map (fun e => e.tx 1) ++ [x.tx 1]) := by unfold Hid; rw [ez t, map_append]; rfl
      have I := hid (fq x 1 Q ni ci wr K (List.all_eq_true.1 R x (mem_of_getElem? t)) (Nat.le_trans (gf (mem_of_getElem? t)) W))
      clear t s K
      unfold Nd.val at I
      generalize x.tx 1 = Z at *
      generalize x.d = d at *
      obtain ⟨op, tb, nm, ix, vk, vi, vt⟩ := d
      simp only at *
      go_wp2_with (first | (go_at_call 50; (with_reducible refine I.out.mono ?_); rintro _ P ⟨rfl, g⟩) | (at_builtin; refine wpList_append_any _ rfl (.tmp 12) (.tmp 18) 101 rfl w.heap.size 9 i0 _ 1 16 underlying101 hi F G H rfl (by decide) _ k _ rfl ((ownN_ext u.out g).alloc _) _ _ 1 1 [.string Z] rfl (reads_new1 P _ _) (by simp [Value.oneCell']) (by unfold maxLen; omega) (by omega) (Nat.le_trans (o.out.trans g).size (by simp)) ?_; intro v1 w5 f j p; have B := hid f; have y := hid j; clear f j p))
      go_roundw
      case rel =>
        have D := bg u
        refine ⟨k + 1, by omega, by go_num, ?_, ((o.trans g).alloc _).grown y fun q hq => D q hq⟩
        rw [X.out, bh]
        exact B
      case measure => simp [intOf]; omega
    · obtain rfl : k = n := by omega
      rw [take_of_length_le (Nat.le_of_eq J)] at u
      have U := hid (eu _ _ _ _ wr u Y)
      go_wp2_with (go_at_call 87; refine U.mono ?_; rintro _ P ⟨rfl, g⟩)
      go_ret
      exact ⟨rfl, o.trans g⟩
theorem cd_num {x:Cd} (h:x.ok=true): -9223372036854775808<x.lo∧ -9223372036854775808<x.hi∧ -9223372036854775808<x.mx:=by
 unfold Cd.ok at h
 split at h<;>simp only[Bool.and_eq_true,dC,beq_iff_eq]at h<;>omega
set_option maxHeartbeats 5000000 in
theorem qQ (s:St) (a:SA) (w:World) (Y:StV w s a) (u:s.defOk=true) (hb:s.cols.length+s.keys.length+s.frs.length+s.chk.length≤1048576) (hz:bX s.elts≤400000000) (hs:sizeL s.chk≤1000):
  Cl 85 #[.agg #[a.cols.v,a.keys.v,a.frs.v,a.chk.v]] w (Rt (.string (cma s.elts)) w):=by
 obtain⟨i0,hi,Q,R,U⟩:=info_parts gN
 have HX:=hid (x10 w (.cells #[.slice a.cols.A a.cols.n a.cols.c,.slice a.keys.A a.keys.n a.keys.c,.slice a.frs.A a.frs.n a.frs.c,.slice a.chk.A a.chk.n a.chk.c] 29))
 have a6:=hid Y.cols.1
 have a7:=hid Y.keys.1
 have a8:=hid Y.frs.1
 have a9:=hid Y.chk.1
 have bN:=hid (Y.cols.2.2.ext HX)
 have bY:=hid (Y.keys.2.2.ext HX)
 have b0:=hid (Y.frs.2.2.ext HX)
 have b1:=hid (Y.chk.2.2.ext HX)
 have bo:=hid hs
 have HZ:=hid hz
 rw[Y.cols.1,Y.keys.1,Y.frs.1,Y.chk.1]at hb
 unfold St.defOk at u
 simp only[Bool.and_eq_true]at u
 have bf:=hid u.1.1.1.2
 have bm:=hid u.1.2
 have bn:=hid u.2
 have b2:Hid (∀x∈s.keys,keyT x∈s.elts):=fun x D=>by unfold St.elts;simp only[mem_append];exact .inl (.inl (.inr (mem_map_of_mem D)))
 have b3:Hid (∀x∈s.frs,Rf.tx x∈s.elts):=fun x D=>by unfold St.elts;simp only[mem_append];exact .inl (.inr (mem_map_of_mem D))
 have HB:=hid (Blk.of_new w 29 [.slice a.cols.A a.cols.n a.cols.c,.slice a.keys.A a.keys.n a.keys.c,.slice a.frs.A a.frs.n a.frs.c,.slice a.chk.A a.chk.n a.chk.c])
 clear Y u hz hs
 unfold Sl.v
 generalize a.cols.A=cA at*
 generalize a.keys.A=kA at*
 generalize a.frs.A=fA at*
 generalize a.chk.A=xA at*
 go_enter func85,ntmps85
 go_wp2_with fail
 have b7:Hid ((w.alloc (.cells #[.slice cA a.cols.n a.cols.c,.slice kA a.keys.n a.keys.c,.slice fA a.frs.n a.frs.c,.slice xA a.chk.n a.chk.c] 29)).heap.size=w.heap.size+1):=by unfold Hid;simp
 generalize w.alloc (.cells _ 29)=I at*
 have b5:=hid (fF I 9 1 0 0 0 I.heap.size #[] (Nat.le_refl _) rfl (by decide))
 go_loopw [3,4] (fun nv iv wr=> ∃(k:Nat),k≤a.cols.n∧iv= i4 k∧wr.ownsRow I.heap.size 9 1 nv (k) (fH ((s.cols.take k).map Cd.tx))∧Ext I wr) (fun _ i _=>a.cols.n- (intOf i).toNat)
 case atStart=>exact⟨0,Nat.zero_le _,rfl,by rw[←b7.out];exact b5,x10 I _⟩
 case round=>
  obtain⟨k,a1,rfl,p,m⟩:=hrel
  have t:=hid p
  have g:=hid m
  clear p
  by_cases P:k<a.cols.n
  ·obtain⟨x,D⟩:=aC a6 P
   obtain⟨⟨cd,cj,an,ax,aS⟩,b,a5,hA,q0,q1,q2,q3,q4,q5⟩:=(bN.ext m) k x D
   subst hA
   have J:Hid ((s.cols.take (k+1)).map Cd.tx=((s.cols.take k).map Cd.tx)++ [Cd.tx x]):=by unfold Hid;rw[ez D,map_append];rfl
   have u:=List.all_eq_true.1 bf x (mem_of_getElem? D)
   have c0:x.nm.size≤1000:=Nat.le_trans (cd_nm u) (by omega)
   have cl:=cd_ty u
   have cz:=Nat.le_trans (bE x.lo an.1 an.2) (show 21≤1000 by omega)
   have cx:=Nat.le_trans (bE x.hi ax.1 ax.2) (show 21≤1000 by omega)
   have cH:=Nat.le_trans (bE x.mx aS.1 aS.2) (show 21≤1000 by omega)
   have a0:=cd_num u
   have ba:=hid (fun W=>iM x.lo W a0.1 an.2)
   have bd:=hid (fun W=>iM x.hi W a0.2.1 ax.2)
   have be:=hid (fun W=>iM x.mx W a0.2.2 aS.2)
   have o:Hid (Cd.tx x=if x.nn=true then (if x.ty=1 then x.nm++⟨#[32,73,78,84,69,71,69,82,40]⟩++itoB x.lo++⟨#[44,32]⟩++itoB x.hi++⟨#[41]⟩else x.nm++⟨#[32,84,69,88,84,40]⟩++itoB x.mx++⟨#[41]⟩)++⟨#[32,78,79,84,32,78,85,76,76]⟩else (if x.ty=1 then x.nm++⟨#[32,73,78,84,69,71,69,82,40]⟩++itoB x.lo++⟨#[44,32]⟩++itoB x.hi++⟨#[41]⟩else x.nm++⟨#[32,84,69,88,84,40]⟩++itoB x.mx++⟨#[41]⟩)):=rfl
   clear D m cd cj an ax aS u a0
   have H:=(HB.ext g).cell 0
   simp only[g10,g11]at H
   generalize Cd.tx x=TX at*
   generalize itoB x.lo=T1 at*
   generalize itoB x.hi=T2 at*
   generalize itoB x.mx=T3 at*
   obtain⟨nm,ty,lo,bv,mx,nn⟩:=x
   simp only at*
   have l:=hid (Blk.of_new wr 99 [.string nm,i4 ty,i4 lo,i4 bv,i4 mx,.bool nn])
   have f:=hid (x10 wr (.cells #[.string nm,i4 ty,i4 lo,i4 bv,i4 mx,.bool nn] 99))
   go_wp2_with fail
   generalize wr.alloc (.cells _ 99)=w2 at*
   generalize wr.heap.size=g2 at*
   have H3:Hid (∀z:ai w2,Cl 91 _ z.now _):=fun z=>be z.now
   obtain⟨l0,l1,l2,l3,l4,l5,-⟩:=lks l
   refine af (by kernel_rfl) (by kernel_rfl) ?_
   repeat (go_big_quiet_step ((go_at_call 91;with_reducible exact aq (H3.out _))))
   refine wpQuiet_nil ?_
   intro w3 K
   have F:=am K
   clear K
   clear l0 l1 l2 l3 l4 l5 H3 be q0 q1 q2 q3 q4 q5 H
   replace l:=hid (l.ext F)
   replace f:=hid (f.trans F)
   clear F
   have cw:(nm++⟨#[32,84,69,88,84,40]⟩++T3++⟨#[41]⟩).size≤10000:=by simp only[ByteArray.size_append];show nm.size+6+T3.size+1≤_;omega
   generalize nm++⟨#[32,84,69,88,84,40]⟩++T3++⟨#[41]⟩=TC at*
   rcases cl with rfl|rfl
   ·cases nn
    ·have E:=o.out
     clear o
     simp only[if_true,Bool.false_eq_true,if_false,(by decide:¬(2:Int)=1)]at E
     rw[E]at J
     clear E
     obtain⟨e0,e1,e2,e3,e4,e5,-⟩:=cls (l)
     go_wp2_with fail
     clear e0 e1 e2 e3 e4 e5
     have H1:Hid (∀z:ai w3,Cl 91 _ z.now _):=fun z=>ba z.now
     have H2:Hid (∀z:ai w3,Cl 91 _ z.now _):=fun z=>bd z.now
     obtain⟨l0,l1,l2,l3,l4,l5,-⟩:=lks l
     refine af (by kernel_rfl) (by kernel_rfl) ?_
     repeat (go_big_quiet_step (first|(go_at_call 91;with_reducible exact aq (H1.out _))|(go_at_call 91;with_reducible exact aq (H2.out _))))
     refine wpQuiet_nil ?_
     intro w4 K
     have F:=am K
     clear K
     have cc:(nm++⟨#[32,73,78,84,69,71,69,82,40]⟩++T1++⟨#[44,32]⟩++T2++⟨#[41]⟩).size≤10000:=by simp only[ByteArray.size_append];show nm.size+9+T1.size+2+T2.size+1≤_;omega
     generalize nm++⟨#[32,73,78,84,69,71,69,82,40]⟩++T1++⟨#[44,32]⟩++T2++⟨#[41]⟩=V at*
     clear l0 l1 l2 l3 l4 l5 H1 H2
     replace l:=hid (l.ext F)
     replace f:=hid (f.trans F)
     clear F
     obtain⟨e0,e1,e2,e3,e4,e5,-⟩:=cls (l)
     have L:=hid ((ownN_ext t f).alloc (.cells #[.string V] 9))
     have O:=hid (reads_new1 w4 (.string V) 9)
     go_wp2_with (at_builtin;refine wpList_append_any _ rfl (.tmp 52) (.tmp 54) 101 rfl I.heap.size 9 i0 _ 1 16 underlying101 hi Q R U rfl (by decide) _ (k) _ rfl L.out _ _ 1 1 [.string V] rfl O.out (by simp[Value.oneCell']) (by unfold maxLen;omega) (by omega) (Nat.le_trans (g.out.trans f.out).size (by simp)) ?_;intro v1 w5 e h j;have B:=hid e;have y:=hid h;clear e h j)
     go_roundw
     case rel=>
      have C:=bg t
      refine⟨k+1,by omega,by go_num,?_,((g.trans f).alloc _).grown y fun q X=>C q X⟩
      rw[J.out,bh]
      exact B
     case measure=>simp[intOf];omega
    ·have E:=o.out
     clear o
     simp only[if_true,Bool.false_eq_true,if_false,(by decide:¬(2:Int)=1)]at E
     rw[E]at J
     clear E
     obtain⟨e0,e1,e2,e3,e4,e5,-⟩:=cls (l)
     go_wp2_with fail
     clear e0 e1 e2 e3 e4 e5
     have H1:Hid (∀z:ai w3,Cl 91 _ z.now _):=fun z=>ba z.now
     have H2:Hid (∀z:ai w3,Cl 91 _ z.now _):=fun z=>bd z.now
     obtain⟨l0,l1,l2,l3,l4,l5,-⟩:=lks l
     refine af (by kernel_rfl) (by kernel_rfl) ?_
     repeat (go_big_quiet_step (first|(go_at_call 91;with_reducible exact aq (H1.out _))|(go_at_call 91;with_reducible exact aq (H2.out _))))
     refine wpQuiet_nil ?_
     intro w4 K
     have F:=am K
     clear K
     have cc:(nm++⟨#[32,73,78,84,69,71,69,82,40]⟩++T1++⟨#[44,32]⟩++T2++⟨#[41]⟩).size≤10000:=by simp only[ByteArray.size_append];show nm.size+9+T1.size+2+T2.size+1≤_;omega
     generalize nm++⟨#[32,73,78,84,69,71,69,82,40]⟩++T1++⟨#[44,32]⟩++T2++⟨#[41]⟩=V at*
     clear l0 l1 l2 l3 l4 l5 H1 H2
     replace l:=hid (l.ext F)
     replace f:=hid (f.trans F)
     clear F
     obtain⟨e0,e1,e2,e3,e4,e5,-⟩:=cls (l)
     have L:=hid ((ownN_ext t f).alloc (.cells #[.string (V++⟨#[32,78,79,84,32,78,85,76,76]⟩)] 9))
     have O:=hid (reads_new1 w4 (.string (V++⟨#[32,78,79,84,32,78,85,76,76]⟩)) 9)
     go_wp2_with (at_builtin;refine wpList_append_any _ rfl (.tmp 52) (.tmp 54) 101 rfl I.heap.size 9 i0 _ 1 16 underlying101 hi Q R U rfl (by decide) _ (k) _ rfl L.out _ _ 1 1 [.string (V++⟨#[32,78,79,84,32,78,85,76,76]⟩)] rfl O.out (by simp[Value.oneCell']) (by unfold maxLen;omega) (by omega) (Nat.le_trans (g.out.trans f.out).size (by simp)) ?_;intro v1 w5 e h j;have B:=hid e;have y:=hid h;clear e h j)
     go_roundw
     case rel=>
      have C:=bg t
      refine⟨k+1,by omega,by go_num,?_,((g.trans f).alloc _).grown y fun q X=>C q X⟩
      rw[J.out,bh]
      exact B
     case measure=>simp[intOf];omega
   ·cases nn
    ·have E:=o.out
     clear o
     simp only[if_true,Bool.false_eq_true,if_false,(by decide:¬(2:Int)=1)]at E
     rw[E]at J
     clear E
     obtain⟨e0,e1,e2,e3,e4,e5,-⟩:=cls (l)
     have L:=hid ((ownN_ext t f).alloc (.cells #[.string TC] 9))
     have O:=hid (reads_new1 w3 (.string TC) 9)
     go_wp2_with (at_builtin;refine wpList_append_any _ rfl (.tmp 52) (.tmp 54) 101 rfl I.heap.size 9 i0 _ 1 16 underlying101 hi Q R U rfl (by decide) _ (k) _ rfl L.out _ _ 1 1 [.string TC] rfl O.out (by simp[Value.oneCell']) (by unfold maxLen;omega) (by omega) (Nat.le_trans (g.out.trans f.out).size (by simp)) ?_;intro v1 w5 e h j;have B:=hid e;have y:=hid h;clear e h j)
     go_roundw
     case rel=>
      have C:=bg t
      refine⟨k+1,by omega,by go_num,?_,((g.trans f).alloc _).grown y fun q X=>C q X⟩
      rw[J.out,bh]
      exact B
     case measure=>simp[intOf];omega
    ·have E:=o.out
     clear o
     simp only[if_true,Bool.false_eq_true,if_false,(by decide:¬(2:Int)=1)]at E
     rw[E]at J
     clear E
     obtain⟨e0,e1,e2,e3,e4,e5,-⟩:=cls (l)
     have L:=hid ((ownN_ext t f).alloc (.cells #[.string (TC++⟨#[32,78,79,84,32,78,85,76,76]⟩)] 9))
     have O:=hid (reads_new1 w3 (.string (TC++⟨#[32,78,79,84,32,78,85,76,76]⟩)) 9)
     go_wp2_with (at_builtin;refine wpList_append_any _ rfl (.tmp 52) (.tmp 54) 101 rfl I.heap.size 9 i0 _ 1 16 underlying101 hi Q R U rfl (by decide) _ (k) _ rfl L.out _ _ 1 1 [.string (TC++⟨#[32,78,79,84,32,78,85,76,76]⟩)] rfl O.out (by simp[Value.oneCell']) (by unfold maxLen;omega) (by omega) (Nat.le_trans (g.out.trans f.out).size (by simp)) ?_;intro v1 w5 e h j;have B:=hid e;have y:=hid h;clear e h j)
     go_roundw
     case rel=>
      have C:=bg t
      refine⟨k+1,by omega,by go_num,?_,((g.trans f).alloc _).grown y fun q X=>C q X⟩
      rw[J.out,bh]
      exact B
     case measure=>simp[intOf];omega
  ·have H:=(HB.ext g).cell 0
   simp only[g10,g11]at H
   obtain rfl:k=a.cols.n:=by omega
   rw[take_of_length_le (Nat.le_of_eq a6)]at t
   go_wp2_with fail
   clear H m
   have ac:=t
   have ad:=g
   clear t g
   go_loopw [3,7] (fun nv iv wr=> ∃(k:Nat),k≤a.keys.n∧iv= i4 k∧wr.ownsRow I.heap.size 9 1 nv (a.cols.n+k) (fH (s.cols.map Cd.tx++(s.keys.take k).map keyT))∧Ext I wr) (fun _ i _=>a.keys.n- (intOf i).toNat)
   case atStart=>exact⟨0,Nat.zero_le _,rfl,by simpa using ac.out,ad⟩
   case round=>
    obtain⟨k,a1,rfl,p,m⟩:=hrel
    have t:=hid p
    have g:=hid m
    clear p
    by_cases P:k<a.keys.n
    ·obtain⟨x,D⟩:=aC a7 P
     obtain⟨b,a5,Ai,ni,ci,hA,q0,h1,h2,h3⟩:=(bY.ext m) k x D
     have J:Hid (s.cols.map Cd.tx++(s.keys.take (k+1)).map keyT=(s.cols.map Cd.tx++(s.keys.take k).map keyT)++ [keyT x]):=by unfold Hid;rw[ez D,map_append];exact(append_assoc _ _ _).symm
     have a4:=fG (b2 x (mem_of_getElem? D))
     have a3:bX x≤(cma x).size+2:=iN x
     have a2:(keyT x).size=8+(cma x).size+1:=by unfold keyT;rw[ByteArray.size_append,ByteArray.size_append];rfl
     have b9:(cma x).size≤1000000000:=by have:=HZ.out;omega
     have HJ:=hid (jg x Ai ni ci wr h1 h3 (by have:=HZ.out;omega))
     have o:Hid (keyT x=⟨#[85,78,73,81,85,69,32,40]⟩++cma x++⟨#[41]⟩):=rfl
     clear D m h1 h2 h3 a4 a3 a2
     generalize cma x=T1 at*
     subst hA
     have E:=o.out
     clear o
     rw[E]at J
     clear E
     have f:Hid (Ext wr wr):=Ext.refl wr
     have H:=(HB.ext g).cell 1
     simp only[g10,g11]at H
     go_wp2_with (first|(go_at_call 87;refine HJ.out.mono ?_;rintro _ w2 ⟨rfl,ag⟩;replace f:Hid (Ext wr w2):=ag)|(at_builtin;generalize ⟨#[85,78,73,81,85,69,32,40]⟩++T1++⟨#[41]⟩=V at*;refine wpList_append_any _ rfl (.tmp 63) (.tmp 72) 101 rfl I.heap.size 9 i0 _ 1 16 underlying101 hi Q R U rfl (by decide) _ (a.cols.n+k) _ rfl ((ownN_ext t.out f.out).alloc _) _ _ 1 1 [.string V] rfl (reads_new1 w2 _ _) (by simp[Value.oneCell']) (by unfold maxLen;omega) (by omega) (Nat.le_trans (g.out.trans f.out).size (by simp)) ?_;intro v1 w5 e h j;have B:=hid e;have y:=hid h;clear e h j))
     go_roundw
     case rel=>
      have C:=bg t
      refine⟨k+1,by omega,by go_num,?_,((g.trans f).alloc _).grown y fun q X=>C q X⟩
      rw[J.out,bh]
      exact B
     case measure=>simp[intOf];omega
    ·have H:=(HB.ext g).cell 1
     simp only[g10,g11]at H
     obtain rfl:k=a.keys.n:=by omega
     rw[take_of_length_le (Nat.le_of_eq a7)]at t
     go_wp2_with fail
     clear H m
     have ac:=t
     have ad:=g
     clear t g
     go_loopw [3,8] (fun nv iv wr=> ∃(k:Nat),k≤a.frs.n∧iv= i4 k∧wr.ownsRow I.heap.size 9 1 nv (a.cols.n+a.keys.n+k) (fH (s.cols.map Cd.tx++s.keys.map keyT++(s.frs.take k).map Rf.tx))∧Ext I wr) (fun _ i _=>a.frs.n- (intOf i).toNat)
     case atStart=>exact⟨0,Nat.zero_le _,rfl,by simpa using ac.out,ad⟩
     case round=>
      obtain⟨k,a1,rfl,p,m⟩:=hrel
      have t:=hid p
      have g:=hid m
      clear p
      by_cases P:k<a.frs.n
      ·obtain⟨x,D⟩:=aC a8 P
       obtain⟨h0,b,a5,A1,n1,c1,A2,n2,c2,hA,q0,q1,q2,h1,h2,h3,h4,h5,h6⟩:=(b0.ext m) k x D
       have J:Hid (s.cols.map Cd.tx++s.keys.map keyT++(s.frs.take (k+1)).map Rf.tx=(s.cols.map Cd.tx++s.keys.map keyT++(s.frs.take k).map Rf.tx)++ [Rf.tx x]):=by unfold Hid;rw[ez D,map_append];exact(append_assoc _ _ _).symm
       have a4:=fG (b3 x (mem_of_getElem? D))
       have u:=List.all_eq_true.1 bm x (mem_of_getElem? D)
       have ck:bX x.cs≤(cma x.cs).size+2:=iN x.cs
       have a3:bX x.tg≤(cma x.tg).size+2:=iN x.tg
       have c3:x.tb.size≤1000:=Nat.le_trans (rf_nm u) (by omega)
       have a2:x.tx.size=13+(cma x.cs).size+13+x.tb.size+2+(cma x.tg).size+1:=by unfold Rf.tx;simp only[ByteArray.size_append];rfl
       have ct:(cma x.cs).size≤500000000:=by have:=HZ.out;omega
       have cv:(cma x.tg).size≤500000000:=by have:=HZ.out;omega
       have bw:=hid (fun W (hW:Ext wr W)=>jg x.cs A1 n1 c1 W h1 (h3.ext hW) (by omega))
       have bx:=hid (fun W (hW:Ext wr W)=>jg x.tg A2 n2 c2 W h4 (h6.ext hW) (by omega))
       have o:Hid (Rf.tx x=⟨#[70,79,82,69,73,71,78,32,75,69,89,32,40]⟩++cma x.cs++⟨#[41,32,82,69,70,69,82,69,78,67,69,83,32]⟩++x.tb++⟨#[32,40]⟩++cma x.tg++⟨#[41]⟩):=rfl
       clear D m h0 h1 h2 h3 h4 h5 h6 a4 ck a3 a2 u
       generalize cma x.cs=T1 at*
       generalize cma x.tg=T2 at*
       generalize x.tb=tb at*
       subst hA
       have E:=o.out
       clear o
       rw[E]at J
       clear E
       have l:=hid (Blk.of_new wr 103 [.slice A1 n1 c1,.string tb,.slice A2 n2 c2])
       have f:=hid (x10 wr (.cells #[.slice A1 n1 c1,.string tb,.slice A2 n2 c2] 103))
       have b6:=hid (ownN_ext t f)
       have b4:=hid (own_ne t)
       have H:=(HB.ext g).cell 2
       simp only[g10,g11]at H
       go_wp2_with fail
       generalize wr.alloc (.cells _ 103)=w2 at*
       generalize wr.heap.size=g2 at*
       obtain⟨e0,e1,e2,-⟩:=cls (l)
       go_region_held_law (fun w'=>w'.cell? ⟨g2,0,none⟩=some (.slice A1 n1 c1)∧w'.cell? ⟨g2,1,none⟩=some (.string tb)∧w'.cell? ⟨g2,2,none⟩=some (.slice A2 n2 c2))
        (first|go_keep|exact blk3 (l.ext G)|exact blk3 ((l.ext G).ext Z)|exact blk3 (((l.ext G).ext Z).ext (x10 _ _))|exact blk3 ((((l.ext G).ext Z).ext (x10 _ _)).grown h b4))
        (first
         |(go_at_call 87;(with_reducible refine(bx.out _ (f.out.trans G)).mono ?_);rintro _ w4 ⟨rfl,Z⟩)
         |(go_at_call 87;(with_reducible refine(bw.out _ f.out.drew).mono ?_);rintro _ w3 ⟨rfl,G⟩;replace G:Ext w2 w3:=(Ext.refl w2).drew.trans G)
         |(generalize ⟨#[70,79,82,69,73,71,78,32,75,69,89,32,40]⟩++T1++⟨#[41,32,82,69,70,69,82,69,78,67,69,83,32]⟩++tb++⟨#[32,40]⟩++T2++⟨#[41]⟩=V at*;refine fJ _ rfl (.tmp 86) (.tmp 101) 101 rfl I.heap.size 9 i0 _ 1 16 underlying101 hi Q R U rfl (by decide) _ (a.cols.n+a.keys.n+k) _ rfl ((ownN_ext b6 (G.trans Z)).alloc _) _ _ 1 1 [.string V] rfl (reads_new1 w4 _ _) (by simp[Value.oneCell']) (by unfold maxLen;omega) (by omega) (Nat.le_trans (g.trans (f.trans (G.trans Z))).size (by simp)) ?_;intro v1 w5 e h j))
       all_goals
        have B:=hid e
        have y:=hid h
        replace f:=hid (f.trans (G.trans Z))
        rename_i hHeld
        clear hHeld e h j e0 e1 e2
        go_wp2_with fail
        go_roundw
        case rel=>
         have C:=bg t
         refine⟨k+1,by omega,by go_num,?_,((g.trans f).alloc _).grown y fun q X=>C q X⟩
         rw[J.out,bh]
         exact B
        case measure=>simp[intOf];omega
      ·have H:=(HB.ext g).cell 2
       simp only[g10,g11]at H
       obtain rfl:k=a.frs.n:=by omega
       rw[take_of_length_le (Nat.le_of_eq a8)]at t
       go_wp2_with fail
       clear H m
       have ac:=t
       have ad:=g
       clear t g
       go_loopw [3,10] (fun nv iv wr=> ∃(k:Nat),k≤a.chk.n∧iv= i4 k∧wr.ownsRow I.heap.size 9 1 nv (a.cols.n+a.keys.n+a.frs.n+k) (fH (s.cols.map Cd.tx++s.keys.map keyT++s.frs.map Rf.tx++(s.chk.take k).map gK))∧Ext I wr) (fun _ i _=>a.chk.n- (intOf i).toNat)
       case atStart=>exact⟨0,Nat.zero_le _,rfl,by simpa using ac.out,ad⟩
       case round=>
        obtain⟨k,a1,rfl,p,m⟩:=hrel
        have t:=hid p
        have g:=hid m
        clear p
        by_cases P:k<a.chk.n
        ·obtain⟨x,D⟩:=aC a9 P
         obtain⟨b,a5,Ai,ni,ci,hA,q0,q1,q2,q3,q4,q5,q6,q7,h1⟩:=(b1.ext m).get D
         subst hA
         have H:=(HB.ext g).cell 3
         simp only[g10,g11]at H
         have J:Hid (s.cols.map Cd.tx++s.keys.map keyT++s.frs.map Rf.tx++(s.chk.take (k+1)).map gK=(s.cols.map Cd.tx++s.keys.map keyT++s.frs.map Rf.tx++(s.chk.take k).map gK)++ [gK x]):=by unfold Hid;rw[ez D,map_append];exact(append_assoc _ _ _).symm
         have hf:=List.all_eq_true.1 bn x (mem_of_getElem? D)
         have cp:=gf (mem_of_getElem? D)
         have HE:=hid (fun W (hW:Ext wr W)=>fq x 1 Ai ni ci W (h1.ext hW) hf (by have:=bo.out;omega))
         have b9:(x.tx 1).size≤100000:=by have:=cK x 1 hf;have:=bo.out;omega
         have o:Hid (gK x=⟨#[67,72,69,67,75,32,40]⟩++x.tx 1++⟨#[41]⟩):=rfl
         clear D m h1 hf cp
         unfold Nd.val at HE
         generalize x.tx 1=T1 at*
         have E:=o.out
         clear o
         rw[E]at J
         clear E
         generalize x.d=d at*
         obtain⟨op,tb,nm,ix,vk,vi,vt⟩:=d
         simp only at*
         go_wp2_with (first|(go_at_call 50;(with_reducible refine(HE.out _ (Ext.refl wr)).mono ?_);rintro _ w2 ⟨rfl,ag⟩;have f:Hid (Ext wr w2):=ag)|(at_builtin;generalize ⟨#[67,72,69,67,75,32,40]⟩++T1++⟨#[41]⟩=V at*;refine wpList_append_any _ rfl (.tmp 110) (.tmp 119) 101 rfl I.heap.size 9 i0 _ 1 16 underlying101 hi Q R U rfl (by decide) _ (a.cols.n+a.keys.n+a.frs.n+k) _ rfl ((ownN_ext t.out f.out).alloc _) _ _ 1 1 [.string V] rfl (reads_new1 w2 _ _) (by simp[Value.oneCell']) (by unfold maxLen;omega) (by omega) (Nat.le_trans (g.out.trans f.out).size (by simp)) ?_;intro v1 w5 e h j;have B:=hid e;have y:=hid h;clear e h j))
         go_roundw
         case rel=>
          have C:=bg t
          refine⟨k+1,by omega,by go_num,?_,((g.trans f).alloc _).grown y fun q X=>C q X⟩
          rw[J.out,bh]
          exact B
         case measure=>simp[intOf];omega
        ·have H:=(HB.ext g).cell 3
         simp only[g10,g11]at H
         obtain rfl:k=a.chk.n:=by omega
         rw[take_of_length_le (Nat.le_of_eq a9)]at t
         have HJ:=hid (eu s.elts _ _ _ wr t (by have:=HZ.out;exact Nat.le_trans this (by omega)))
         go_wp2_with (go_at_call 87;refine HJ.mono ?_;rintro _ w2 ⟨rfl,ag⟩)
         go_ret
         exact⟨rfl,HX.trans (g.trans ag)⟩
theorem gO (s:St) (h:s.bulk≤1048576):s.tb.size≤1048576∧s.nm.size≤1048576∧sumB iB s.cols+sumB bkK s.keys+sumB jP s.frs+sizeL s.chk≤1048576∧sumB bkR s.vals≤1048576∧sumB bkA s.sets≤1048576∧sumB bkI s.itms≤1048576∧sumB bkF s.frm≤1048576∧sumB bkO s.ord≤1048576:=by
 unfold St.bulk at h;omega
theorem dS (s:St) (h:s.bulk≤1048576):s.cols.length+s.keys.length+s.frs.length+s.chk.length≤1048576∧s.vals.length≤1048576∧s.sets.length≤1048576∧s.itms.length+s.frm.length+s.grp.length+s.ord.length≤1048576:=by
 have b:∀l:List Ex,l.length≤sizeL l:=fun l=>by rw[←jf];exact bW (fun a=>dX a) l
 have f:=bW (bk:=iB) (fun a=>by unfold iB;omega) s.cols
 have g:=bW (bk:=bkK) (fun a=>by unfold bkK;omega) s.keys
 have i:=bW (bk:=jP) (fun a=>by unfold jP;omega) s.frs
 have j:=b s.chk
 have k:=bW (bk:=bkR) (fun a=>by unfold bkR;omega) s.vals
 have m:=bW (bk:=bkA) (fun a=>by unfold bkA;omega) s.sets
 have n:=bW (bk:=bkI) (fun a=>by unfold bkI;omega) s.itms
 have o:=bW (bk:=bkF) (fun a=>by unfold bkF;omega) s.frm
 have p:=b s.grp
 have e:=bW (bk:=bkO) (fun a=>by unfold bkO;omega) s.ord
 unfold St.bulk at h
 omega
theorem jT (s:St) (b:s.whr.absent=true∨s.whr.formed=true) (hs:s.whr.size≤1000):s.whT.size≤100000:=by
 unfold St.whT
 split
 ·exact Nat.zero_le _
 ·rename_i h
  have a:=b.resolve_left h
  have:=cK s.whr 1 a
  rw[ByteArray.size_append]
  show 7+_≤_
  omega
theorem sY {s:St} (h:s.qOk=true):s.itms.all Itm.ok=true∧s.frm.all Src.ok=true∧s.grp.all Ex.formed=true∧s.ord.all Ord'.ok=true∧0≤s.lim∧s.lim≤2147483648:=by
 unfold St.qOk at h
 simp only[Bool.and_eq_true,dC]at h
 refine⟨h.1.1.1.1.1,h.1.1.1.2,List.all_eq_true.2 fun e a=>?_,h.1.2,h.2⟩
 have:=List.all_eq_true.1 h.1.1.2 e a
 unfold gJ at this
 simp only[Bool.and_eq_true]at this
 exact this.2
theorem src_nm {x:Src} (h:x.ok=true):x.tb.size≤1000∧x.al.size≤1000:=by
 unfold Src.ok at h
 simp only[Bool.and_eq_true,Bool.or_eq_true]at h
 refine⟨Nat.le_trans (bT h.1) (by omega),?_⟩
 rcases h.2 with h|h
 ·rw[←eo]at h;have:x.al.size=0:=by simpa using h
  omega
 ·exact Nat.le_trans (bT h) (by omega)
theorem asg_nm {x:Asg} (h:x.ok=true):x.cl.size≤1000∧x.ex.formed=true:=by
 unfold Asg.ok at h
 simp only[Bool.and_eq_true]at h
 exact⟨Nat.le_trans (bT h.1) (by omega),h.2⟩
theorem pP (s:St) (a:s.itms.all Itm.ok=true) (g:sumB bkI s.itms≤1048576):s.itT.size≤104857600:=by
 unfold St.itT
 split
 ·show 1≤_;omega
 ·have e:=aW (s.itms.map Itm.tx)
  have f:=bb Itm.tx bkI 100 s.itms fun x b=>pL (List.all_eq_true.1 a x b)
  omega
theorem sel_any (s:St) (a:SA) (w:World) (E:Gd w) (b:StV w s a) (hq:s.qOk=true) (hw:s.whr.absent=true∨s.whr.formed=true) (D:s.Fits) (Z:s.bulk≤1048576):
  Cl 133 #[s.val a] w (Rt (.string s.sel) w):=by
 obtain⟨p,K,C,t,ad,ag⟩:=sY hq
 have L:=gO s Z
 have ac:=dS s Z
 have H1:=hid (fun W (h:Ext w W)=>lss.2.2.2.1 209 ent_itmt Itm.tx s.itms a.itms.A a.itms.n a.itms.c W b.itms.1 (by have:=b.itms.1;omega) (b.itms.2.2.ext h) (Nat.le_trans (bb Itm.tx bkI 100 s.itms fun x l=>pL (List.all_eq_true.1 p x l)) (by omega)) fun x l J m v b=>by obtain⟨Ai,ni,ci,rfl,hc⟩:=b;exact itmt_any x Ai ni ci J (E.ext (h.trans m)) hc (List.all_eq_true.1 p x l) (D.itms x l))
 have H2:=hid (fun W (h:Ext w W)=>lss.2.2.2.2.1 212 ent_srct Src.tx s.frm a.frm.A a.frm.n a.frm.c W b.frm.1 (by have:=b.frm.1;omega) (b.frm.2.2.ext h) (Nat.le_trans (bb Src.tx bkF 100 s.frm fun x l=>jR x) (by omega)) fun x l J m v b=>by obtain⟨rfl,hc⟩:=b;exact srct_any x J (src_nm (List.all_eq_true.1 K x l)))
 have H3:=hid (fun W (h:Ext w W)=>rs s a W (E.ext h) (b.whr.ext h) hw D.whr)
 have H4:=hid (fun W (h:Ext w W)=>rq s.grp a.grp.A a.grp.n a.grp.c W (E.ext h) b.grp.1 (b.grp.2.2.ext h) C D.grp)
 have H5:=hid (fun W (h:Ext w W)=>lss.2.2.2.2.2 214 ent_ordt Ord'.tx s.ord a.ord.A a.ord.n a.ord.c W b.ord.1 (by have:=b.ord.1;omega) (b.ord.2.2.ext h) (Nat.le_trans (bb Ord'.tx bkO 100 s.ord fun x l=>jS (List.all_eq_true.1 t x l)) (by omega)) fun x l J m v b=>by obtain⟨rfl,hc⟩:=b;exact ordt_any x J (E.ext (h.trans m)) (List.all_eq_true.1 t x l))
 have H6:=hid (fun W (h:Ext w W)=>number_any s.lim W ((E.ext h).can b.lim))
 have z1:=pP s p L.2.2.2.2.2.1
 have z2:(cma (s.frm.map Src.tx)).size≤104857600:=Nat.le_trans (aW _) (Nat.le_trans (bb Src.tx bkF 100 s.frm fun x l=>jR x) (by omega))
 have z3:=jT s hw D.whr
 have z4:(exsT s.grp).size≤100000:=Nat.le_trans (aW _) (Nat.le_trans (gL C) (by have:=D.grp;omega))
 have z5:(cma (s.ord.map Ord'.tx)).size≤104857600:=Nat.le_trans (aW _) (Nat.le_trans (bb Ord'.tx bkO 100 s.ord fun x l=>jS (List.all_eq_true.1 t x l)) (by omega))
 have z6:=Nat.le_trans (bE s.lim (by omega) (by omega)) (show 21≤1000 by omega)
 have X:Hid (s.sel0=⟨#[83,69,76,69,67,84,32]⟩++s.itT++⟨#[32,70,82,79,77,32]⟩++cma (s.frm.map Src.tx)++s.whT):=rfl
 have F:Hid (s.sel1=if s.grp.length=0 then s.sel0 else s.sel0++(⟨#[32,71,82,79,85,80,32,66,89,32]⟩++exsT s.grp)):=rfl
 have G:Hid (s.sel2=if s.ord.length=0 then s.sel1 else s.sel1++(⟨#[32,79,82,68,69,82,32,66,89,32]⟩++cma (s.ord.map Ord'.tx))):=rfl
 have D3:Hid (s.sel=if 0<s.lim then s.sel2++(⟨#[32,76,73,77,73,84,32]⟩++itoB s.lim)else s.sel2):=rfl
 have V:Hid (s.itT=if s.itms.length=0 then ⟨#[42]⟩else cma (s.itms.map Itm.tx)):=rfl
 rw[b.grp.1]at F
 rw[b.ord.1]at G
 rw[b.itms.1]at V
 have y0:s.sel0.size≤300000000:=by
  rw[X.out];simp only[ByteArray.size_append];show 7+_+6+_+_≤_;omega
 have y1:s.sel1.size≤300100100:=by
  rw[F.out];refine aO _ _ _ _ (by omega) ?_;simp only[ByteArray.size_append];show _+(10+_)≤_;omega
 have y2:s.sel2.size≤500000000:=by
  rw[G.out];refine aO _ _ _ _ (by omega) ?_;simp only[ByteArray.size_append];show _+(10+_)≤_;omega
 have k:=hid (Blk.of_new w 40 (s.cells a))
 have HX:=hid (x10 w (.cells (s.cells a).toArray 40))
 clear E b hq hw D Z p K C t ad ag L ac
 unfold St.val at*
 unfold St.cells Sl.v at*
 generalize s.sel=O3 at*
 generalize s.sel2=O2 at*
 generalize s.sel1=O1 at*
 generalize s.sel0=O0 at*
 generalize s.itT=TI at*
 generalize s.whT=TW at*
 generalize cma (s.frm.map Src.tx)=TS at*
 generalize exsT s.grp=TG at*
 generalize cma (s.ord.map Ord'.tx)=TO at*
 generalize itoB s.lim=TL at*
 generalize cma (s.itms.map Itm.tx)=ax at*
 go_enter func133,ntmps133
 go_upto_region 1 with fail
 generalize w.alloc (.cells _ 40)=w1 at*
 generalize w.heap.size=g at*
 have p8:=(k).cell 8
 simp only[g10,g11]at p8
 go_upto_if 8 with fail
 go_cut [3] from 5 to 11 (fun P U=>P= .string TI∧Ext w1 U)
 case first=>
  by_cases o:0<a.itms.n
  ·have f:=V.out
   rw[if_neg (by omega)]at f
   subst f
   go_wp2_with (go_at_call 208;(with_reducible refine(H1.out _ HX.out).mono ?_);rintro _ w2 ⟨rfl,j⟩)
   go_meet
   exact⟨rfl,j⟩
  ·have f:=V.out
   rw[if_pos (by omega)]at f
   subst f
   go_wp2_with fail
   go_meet
   exact⟨rfl,Ext.refl _⟩
 case rest=>
  obtain⟨rfl,e⟩:=hcut
  generalize wc=wa at*
  have y:=hid (HX.trans e)
  replace k:=hid (k.ext e)
  clear e H1 V p8
  go_upto_region 4 with fail
  have K2:Hid (∀z:ai wa,Cl 211 _ z.now _):=fun z=>H2 z.now (y.trans z.ext)
  have K3:Hid (∀z:ai wa,Cl 132 _ z.now _):=fun z=>H3 z.now (y.trans z.ext)
  have l9:=ai.keep (k.cell_some (i:=9) rfl)
  refine af (by kernel_rfl) (by kernel_rfl) ?_
  repeat (first|(refine cT rfl 40 (.tmp 1) rfl g rfl 40 _ _ (gk k) underlying40 rfl (by kernel_rfl) ?_;go_simp)|go_big_quiet_step (first|(go_at_call 211;with_reducible exact aq (K2.out _))|(go_at_call 132;with_reducible exact aq (K3.out _))))
  refine wpQuiet_nil ?_
  first|(intro wb O;have u:=am O;clear O)|(intro xb;have u:=xb.ext;generalize xb.now=wb at*;clear xb)
  have Y:=X.out
  generalize ⟨#[83,69,76,69,67,84,32]⟩++TI++⟨#[32,70,82,79,77,32]⟩++TS++TW=TX at*
  subst Y
  replace k:=hid (k.ext u)
  have H:=hid (y.trans u)
  clear u K2 K3 H2 H3 l9 X
  have Q:=(k).cell 18
  simp only[g10,g11]at Q
  go_upto_if 25 with fail
  go_cut [4] from 22 to 31 (fun P U=>P= .string O1∧Ext wb U)
  case first=>
   by_cases o:0<a.grp.n
   ·have f:=F.out
    rw[if_neg (by omega)]at f
    go_wp2_with (go_at_call 128;(with_reducible refine(H4.out _ H.out).mono ?_);rintro _ w2 ⟨rfl,j⟩)
    go_meet
    exact⟨by rw[f],j⟩
   ·have f:=F.out
    rw[if_pos (by omega)]at f
    subst f
    go_wp2_with fail
    go_meet
    exact⟨rfl,Ext.refl _⟩
  case rest=>
   obtain⟨rfl,e⟩:=hcut
   generalize wc=wd at*
   have I:=hid (H.trans e)
   replace k:=hid (k.ext e)
   clear e H4 F Q y0
   have R:=(k).cell 19
   simp only[g10,g11]at R
   go_upto_if 35 with fail
   go_cut [4] from 32 to 41 (fun P U=>P= .string O2∧Ext wd U)
   case first=>
    by_cases o:0<a.ord.n
    ·have f:=G.out
     rw[if_neg (by omega)]at f
     go_wp2_with (go_at_call 213;(with_reducible refine(H5.out _ I.out).mono ?_);rintro _ w2 ⟨rfl,j⟩)
     go_meet
     exact⟨by rw[f],j⟩
    ·have f:=G.out
     rw[if_pos (by omega)]at f
     subst f
     go_wp2_with fail
     go_meet
     exact⟨rfl,Ext.refl _⟩
   case rest=>
    obtain⟨rfl,e⟩:=hcut
    generalize wc=we at*
    have B:=hid (I.trans e)
    replace k:=hid (k.ext e)
    clear e H5 G R y1
    have an:=(k).cell 20
    simp only[g10,g11]at an
    have f:=D3.out
    by_cases o:0<s.lim
    ·rw[if_pos o]at f
     have hd:decide (0<s.lim)=true:=by simpa using o
     clear o
     go_wp2_with (go_at_call 202;(with_reducible refine(H6.out _ B.out).mono ?_);rintro _ w2 ⟨rfl,j⟩)
     go_ret
     exact⟨fR f.symm,B.trans j⟩
    ·rw[if_neg o]at f
     have hd:decide (0<s.lim)=false:=by simpa using o
     clear o
     subst f
     go_wp2_with fail
     go_ret
     exact⟨rfl,B⟩
theorem form_any (s:St) (a:SA) (w:World) (E:Gd w) (j:StV w s a) (F:nG w a.keys.A a.keys.n) (G:nH w a.frs.A a.frs.n) (H:s.formed=true) (u:s.Fits) (Q:s.bulk≤1048576):
  Cl 65 #[s.val a] w (Rt (.string s.body) w):=by
 have k:=cu H
 have C:=gO s Q
 have K:=dS s Q
 have p:=hid (Blk.of_new w 40 (s.cells a))
 have o:=hid (x10 w (.cells (s.cells a).toArray 40))
 have z1:s.tb.size≤1048576:=C.1
 have z2:s.nm.size≤1048576:=C.2.1
 have D:=jT s (gM H) u.whr
 have m:=hid (fun W (f:Ext w W)=>rs s a W (E.ext f) (j.whr.ext f) (gM H) u.whr)
 have I:s.kd=5∨s.kd=6∨s.kd=7∨s.kd=8∨s.kd=9∨s.kd=10∨s.kd=11∨s.kd=1∨s.kd=2∨s.kd=3∨s.kd=4:=by have:=k.1;omega
 have J:=I
 rcases J with hk|hk|hk|hk|hk|hk|hk|hk|hk|hk|hk
 all_goals
  first|have e1:(s.kd==1)=false:=by simp[hk]|have e1:(s.kd==1)=true:=by simp[hk]
  first|have e2:(s.kd==2)=false:=by simp[hk]|have e2:(s.kd==2)=true:=by simp[hk]
  first|have e3:(s.kd==3)=false:=by simp[hk]|have e3:(s.kd==3)=true:=by simp[hk]
  first|have e4:(s.kd==4)=false:=by simp[hk]|have e4:(s.kd==4)=true:=by simp[hk]
  first|have e5:(s.kd==5)=false:=by simp[hk]|have e5:(s.kd==5)=true:=by simp[hk]
  first|have e6:(s.kd==6)=false:=by simp[hk]|have e6:(s.kd==6)=true:=by simp[hk]
  first|have e7:(s.kd==7)=false:=by simp[hk]|have e7:(s.kd==7)=true:=by simp[hk]
  first|have e8:(s.kd==8)=false:=by simp[hk]|have e8:(s.kd==8)=true:=by simp[hk]
  first|have e9:(s.kd==9)=false:=by simp[hk]|have e9:(s.kd==9)=true:=by simp[hk]
  first|have ac:(s.kd==10)=false:=by simp[hk]|have ac:(s.kd==10)=true:=by simp[hk]
 have b:s.body=s.sel:=by unfold St.body;simp[hk]
 rw[b]
 have t:=hid (fun W (f:Ext w W)=>sel_any s a W (E.ext f) (j.ext f) (k.2.2.2.2.2.2.2.1 hk) (gM H) u Q)
 clear m D
 generalize s.sel=X at*
 rotate_left
 have b:s.body=⟨#[66,69,71,73,78]⟩:=by unfold St.body;simp[hk]
 rw[b]
 clear m D
 rotate_left
 have b:s.body=⟨#[67,79,77,77,73,84]⟩:=by unfold St.body;simp[hk]
 rw[b]
 clear m D
 rotate_left
 have b:s.body=⟨#[82,79,76,76,66,65,67,75]⟩:=by unfold St.body;simp[hk]
 rw[b]
 clear m D
 rotate_left
 have b:s.body=⟨#[83,65,86,69,80,79,73,78,84,32]⟩++s.nm:=by unfold St.body;simp[hk]
 rw[b]
 clear m D
 rotate_left
 have b:s.body=⟨#[82,79,76,76,66,65,67,75,32,84,79,32]⟩++s.nm:=by unfold St.body;simp[hk]
 rw[b]
 clear m D
 rotate_left
 have b:s.body=⟨#[82,69,76,69,65,83,69,32]⟩++s.nm:=by unfold St.body;simp[hk]
 rw[b]
 clear m D
 rotate_left
 have b:s.body=⟨#[67,82,69,65,84,69,32,84,65,66,76,69,32]⟩++s.tb++⟨#[32,40]⟩++cma s.elts++⟨#[41]⟩:=by unfold St.body;simp[hk]
 rw[b]
 have hd:=k.2.1 hk
 have e:=Nat.le_trans (nK hd) (show _≤104857600 by omega)
 have z4:(cma s.elts).size≤104857600:=Nat.le_trans (aW _) e
 have t:=hid (fun W (f:Ext w W)=>sX s a W (E.ext f) (j.ext f) (F.ext f) (G.ext f) hd K.1 (by omega) u.chk)
 clear hd e m
 generalize cma s.elts=X at*
 rotate_left
 have b:s.body=⟨#[73,78,83,69,82,84,32,73,78,84,79,32]⟩++s.tb++⟨#[32,86,65,76,85,69,83,32]⟩++cma (s.vals.map dV):=by unfold St.body;simp[hk]
 rw[b]
 have h:=k.2.2.2.1 hk
 have B:∀x∈s.vals,x.all Ex.formed=true:=fun x l=>by have:=List.all_eq_true.1 h x l;unfold rowOk at this;simp only[Bool.and_eq_true]at this;exact this.2
 have e:=Nat.le_trans (bb dV bkR 100 s.vals fun x l=>pJ (B x l)) (show _≤104857600 by omega)
 have z4:(cma (s.vals.map dV)).size≤104857600:=Nat.le_trans (aW _) e
 have t:=hid (fun W (f:Ext w W)=>lss.2.1 127 ent_rowt dV s.vals a.vals.A a.vals.n a.vals.c W j.vals.1 (by have:=j.vals.1;omega) (j.vals.2.2.ext f) (by omega) fun x l Y y v j=>by obtain⟨U,ni,Z,rfl,R⟩:=j;exact rowt_any x U ni Z Y (E.ext (f.trans y)) R.1 R.2 (B x l) (u.vals x l))
 clear h B e m
 generalize cma (s.vals.map dV)=X at*
 rotate_left
 have b:s.body=⟨#[85,80,68,65,84,69,32]⟩++s.tb++⟨#[32,83,69,84,32]⟩++cma (s.sets.map Asg.tx)++s.whT:=by unfold St.body;simp[hk]
 rw[b]
 have h:=k.2.2.2.2.2.1 hk
 have e:=Nat.le_trans (bb Asg.tx bkA 100 s.sets fun x l=>pK (List.all_eq_true.1 h x l)) (show _≤104857600 by omega)
 have z4:(cma (s.sets.map Asg.tx)).size≤104857600:=Nat.le_trans (aW _) e
 have t:=hid (fun W (f:Ext w W)=>lss.2.2.1 130 ent_asgt Asg.tx s.sets a.sets.A a.sets.n a.sets.c W j.sets.1 (by have:=j.sets.1;omega) (j.sets.2.2.ext f) (by omega) fun x l Y y v j=>by obtain⟨U,ni,Z,rfl,R⟩:=j;exact asgt_any x U ni Z Y (E.ext (f.trans y)) (asg_nm (List.all_eq_true.1 h x l)).1 R (asg_nm (List.all_eq_true.1 h x l)).2 (u.sets x l))
 clear h e
 generalize cma (s.sets.map Asg.tx)=X at*
 generalize s.whT=TW at*
 rotate_left
 have b:s.body=fX++s.tb++s.whT:=by unfold St.body;simp[hk]
 rw[b]
 generalize s.whT=TW at*
 unfold fX
 rotate_left
 all_goals
  clear E j hk F G H u Q k C K b I
  unfold St.val at*
  unfold St.cells Sl.v at*
  go_enter func65,ntmps65
  go_upto_region 1 with fail
  generalize w.alloc (.cells _ 40)=P at*
  generalize w.heap.size=g at*
  obtain⟨p0,-,-,-,-,-,-,-,-,-,-,-,-,-,-,-,-,-,-,-,-,ag,-⟩:=cls (p)
 ·go_wp2_with (first|(refine aw rfl 40 (.tmp 1) rfl g rfl 40 _ _ p underlying40 rfl (by kernel_rfl) ?_)|(go_at_call 133;(with_reducible refine(t.out _ o.out).mono ?_);rintro _ w5 ⟨rfl,ad⟩))
  go_ret
  exact⟨rfl,o.trans ad⟩
 iterate 6 (go_wp2_with fail;go_ret;exact⟨rfl,o⟩)
 go_wp2_with fail
 have V:Hid (∀z:ai P,Cl 125 _ z.now _):=fun z=>t z.now (o.trans z.ext)
 obtain⟨-,l1,l2,l3,l4,l5,-⟩:=lks p
 rotate_left
 go_wp2_with fail
 have V:Hid (∀z:ai P,Cl 126 _ z.now _):=fun z=>t z.now (o.trans z.ext)
 obtain⟨-,l1,-,-,-,-,l6,-⟩:=lks p
 rotate_left
 go_wp2_with fail
 have V:Hid (∀z:ai P,Cl 129 _ z.now _):=fun z=>t z.now (o.trans z.ext)
 have K2:Hid (∀z:ai P,Cl 132 _ z.now _):=fun z=>m z.now (o.trans z.ext)
 obtain⟨-,l1,-,-,-,-,-,l7,-⟩:=lks p
 rotate_left
 go_wp2_with fail
 have K2:Hid (∀z:ai P,Cl 132 _ z.now _):=fun z=>m z.now (o.trans z.ext)
 have l1:=ai.keep (p.cell_some (i:=1) rfl)
 rotate_left
 all_goals
  refine af (by kernel_rfl) (by kernel_rfl) ?_
  repeat (first|(refine cT rfl 40 (.tmp 1) rfl g rfl 40 _ _ (gk p) underlying40 rfl (by kernel_rfl) ?_;go_simp)|go_big_quiet_step (first|(with_reducible exact aq (V.out _))|(with_reducible exact aq (K2.out _))))
  refine wpQuiet_nil ?_
  first|(intro wb L;have O:=am L;clear L)|(intro xb;have O:=xb.ext;generalize xb.now=wb at*;clear xb)
  go_wp2_with fail
  go_ret
  exact⟨rfl,o.trans O⟩
theorem agW_2:agW 2=⟨#[67,79,85,78,84]⟩:=rfl
theorem agW_3:agW 3=⟨#[83,85,77]⟩:=rfl
theorem agW_4:agW 4=⟨#[77,73,78]⟩:=rfl
theorem agW_5:agW 5=⟨#[77,65,88]⟩:=rfl
theorem pQ (s:St) (a:SA) (w:World) (j:ExV w s.whr a.whr.A a.whr.n a.whr.c) (i:s.whr.absent=true∨s.whr.formed=true) (hs:s.whr.size≤1000):
  Cl 88 #[s.val a] w (Rt (.string s.whT) w):=by
 unfold St.whT
 have t:=hid (Blk.of_new w 40 (s.cells a))
 have g:=hid (x10 w (.cells (s.cells a).toArray 40))
 unfold St.val at*
 unfold St.cells Sl.v at*
 cases b:s.whr.absent
 ·have f:=i.resolve_left (by rw[b];simp)
  have l:=hid (fun W (m:Ext w W)=>fq s.whr 1 a.whr.A a.whr.n a.whr.c W (j.ext m) f hs)
  have p:(s.whr.tx 1).size≤100000:=by have:=cK s.whr 1 f;omega
  have o:(s.whr.d.op==0)=false:=by
   have h:s.whr.d.op≠0:=by
    generalize s.whr=e at f
    cases e with
    |mk d ks=>exact qY f
   simpa using h
  unfold Nd.val at l
  clear j i hs b f
  unfold nI
  simp only[Bool.false_eq_true,if_false]
  generalize s.whr.tx 1=T at*
  go_enter func88,ntmps88
  go_wp2_with (go_at_call 50;refine(l _ g).mono ?_;rintro _ u ⟨rfl,k⟩)
  go_ret
  exact⟨rfl,g.trans k⟩
 ·have o:(s.whr.d.op==0)=true:=by
   unfold Ex.absent at b
   simp only[Bool.and_eq_true]at b
   exact b.1.1.1.1
  clear j i hs b
  simp only[if_true]
  go_enter func88,ntmps88
  go_wp2_with fail
  go_ret
  exact⟨rfl,g⟩
theorem itm_cases {x:Itm} (h:x.ok=true):(x.ag=1∨x.ag=0∧x.ex.formed=true∨(x.ag=2∨x.ag=3∨x.ag=4∨x.ag=5)∧x.ex.formed=true):=by
 unfold Itm.ok at h
 split at h
 ·rename_i a;exact .inl (by simpa using a)
 ·rename_i a
  have a:x.ag≠1:=by simpa using a
  simp only[Bool.and_eq_true,decide_eq_true_eq]at h
  by_cases b:x.ag=0
  ·exact .inr (.inl ⟨b,h.2⟩)
  ·exact .inr (.inr ⟨by omega,h.2⟩)
theorem wJ (l:List Itm) (A:OA) (n c:Nat) (w:World) (hl:l.length=n) (hn:n≤1048576) (hk:fN w A l) (B:l.all Itm.ok=true) (hs:∀x∈l,x.ex.size≤1000) (R:bX (l.map Itm.tx)≤1000000000):
  Cl 160 #[.slice A n c] w (Rt (.string (if l.length=0 then ⟨#[42]⟩else cma (l.map Itm.tx))) w):=by
 obtain⟨U,hi,D,E,F⟩:=info_parts gN
 have HL:=hid hl
 have HK:=hid hk
 have HF:=hid B
 have HS:=hid hs
 have HZ:=hid R
 rw[hl]
 clear hl hk B hs R
 by_cases h0:n=0
 ·subst h0
  simp only[if_true]
  go_enter func160,ntmps160
  go_wp2_with fail
  go_ret
  exact⟨rfl,Ext.refl w⟩
 ·have hd:((n:Int)==0)=false:=by simp[h0]
  rw[if_neg h0]
  clear h0
  go_enter func160,ntmps160
  go_wp2_with fail
  have ac:=hid (fF w 9 1 0 0 0 w.heap.size #[] (Nat.le_refl _) rfl (by decide))
  go_loopw [3,4] (fun nv iv wr=> ∃(k:Nat),k≤n∧iv= i4 k∧wr.ownsRow w.heap.size 9 1 nv k (fH ((l.take k).map Itm.tx))∧Ext w wr) (fun _ i _=>n- (intOf i).toNat)
  case atStart=>exact⟨0,Nat.zero_le _,rfl,ac,x10 w _⟩
  case round=>
   obtain⟨k,an,rfl,O,Q⟩:=hrel
   have C:=hid O
   have j:=hid Q
   clear O
   by_cases ad:k<n
   ·obtain⟨x,Y⟩:=aC HL ad
    have V:=HK.ext Q
    obtain⟨b,z,Ai,ni,ci,rfl,q0,q1,q2,q3,q4,q5,q6,q7,q8,h1⟩:=fW V Y
    have H:Hid ((l.take (k+1)).map Itm.tx=(l.take k).map Itm.tx++ [x.tx]):=by unfold Hid;rw[ez Y,map_append];rfl
    have hc:=itm_cases (List.all_eq_true.1 HF x (mem_of_getElem? Y))
    have X:=HS x (mem_of_getElem? Y)
    have G:=hid (fun W (I:Ext wr W) (B:x.ex.formed=true)=>fq x.ex 1 Ai ni ci W (h1.ext I) B X)
    have u:x.ex.formed=true→(x.ex.tx 1).size≤100000:=fun B=>by have:=cK x.ex 1 B;omega
    have m:Hid (x.tx=if x.ag=1 then ⟨#[67,79,85,78,84,40,42,41]⟩else if x.ag=0 then x.ex.tx 1 else agW x.ag++⟨#[40]⟩++x.ex.tx 1++⟨#[41]⟩):=rfl
    have HQ:Hid (∀W,Ext wr W→W.cell? ⟨b,z+k*9,none⟩=some (i4 x.ag)∧W.cell? ⟨b,z+k*9+1,none⟩=some (i4 x.ex.d.op)∧W.cell? ⟨b,z+k*9+2,none⟩=some (.string x.ex.d.tb)∧W.cell? ⟨b,z+k*9+3,none⟩=some (.string x.ex.d.nm)∧W.cell? ⟨b,z+k*9+4,none⟩=some (i4 x.ex.d.ix)∧W.cell? ⟨b,z+k*9+5,none⟩=some (i4 x.ex.d.vk)∧W.cell? ⟨b,z+k*9+6,none⟩=some (i4 x.ex.d.vi)∧W.cell? ⟨b,z+k*9+7,none⟩=some (.string x.ex.d.vt)∧W.cell? ⟨b,z+k*9+8,none⟩=some (.slice Ai ni ci)):=fun W I=>⟨I.keep q0,I.keep q1,I.keep q2,I.keep q3,I.keep q4,I.keep q5,I.keep q6,I.keep q7,I.keep q8⟩
    clear Y Q h1 V X q0 q1 q2 q3 q4 q5 q6 q7 q8
    unfold Nd.val at G
    have f:=hid (x10 wr (.cells #[.string ⟨#[]⟩,.string ⟨#[67,79,85,78,84]⟩,.string ⟨#[67,79,85,78,84]⟩,.string ⟨#[83,85,77]⟩,.string ⟨#[77,73,78]⟩,.string ⟨#[77,65,88]⟩] 9))
    have HB:=hid (Blk.of_new wr 9 [.string ⟨#[]⟩,.string ⟨#[67,79,85,78,84]⟩,.string ⟨#[67,79,85,78,84]⟩,.string ⟨#[83,85,77]⟩,.string ⟨#[77,73,78]⟩,.string ⟨#[77,65,88]⟩])
    have hQ:=HQ _ f
    obtain⟨e0,e1,e2,e3,e4,e5,e6,e7,e8⟩:=hQ
    obtain⟨b0,b1,b2,b3,b4,b5,-⟩:=cls HB
    obtain⟨ag,ex⟩:=x
    simp only at*
    generalize Itm.tx ⟨ag,ex⟩=TX at*
    rcases hc with rfl|⟨rfl,B⟩|⟨rfl|rfl|rfl|rfl,B⟩
    ·have s:=m.out
     simp only[if_true]at s
     rw[s]at H
     clear s m G u
     go_upto_region 8 with fail
     generalize wr.alloc (.cells _ 9)=wq at*
     go_wp2_with (at_builtin;refine wpList_append_any _ rfl (.tmp 55) (.tmp 56) 101 rfl w.heap.size 9 U _ 1 16 underlying101 hi D E F rfl (by decide) _ (k) _ rfl ((ownN_ext C.out f.out).alloc _) _ _ 1 1 [.string ⟨#[67,79,85,78,84,40,42,41]⟩] rfl (reads_new1 _ _ _) (by simp[Value.oneCell']) (by unfold maxLen;omega) (by omega) (Nat.le_trans (j.out.trans f.out).size (by simp)) ?_;intro Z w5 a e g;have p:=hid a;have o:=hid e;clear a e g)
     go_roundw
     case rel=>
      have t:=bg C
      refine⟨k+1,by omega,by go_num,?_,((j.trans f).alloc _).grown o fun q J=>t q J⟩
      rw[H.out,bh]
      exact p
     case measure=>simp[intOf];omega
    ·have s:=m.out
     simp only[(by decide:¬(0:Int)=1),if_true,if_false]at s
     rw[s]at H
     have y:=hid (G _ f B)
     have R:=u B
     clear s m G u
     generalize ex.tx 1=L at*
     go_wp2_with (first|(go_at_call 50;(with_reducible refine y.out.mono ?_);rintro _ K ⟨rfl,h⟩)|(at_builtin;refine wpList_append_any _ rfl (.tmp 44) (.tmp 51) 101 rfl w.heap.size 9 U _ 1 16 underlying101 hi D E F rfl (by decide) _ (k) _ rfl ((ownN_ext C.out (f.out.trans h)).alloc _) _ _ 1 1 [.string L] rfl (reads_new1 K _ _) (by simp[Value.oneCell']) (by unfold maxLen;omega) (by omega) (Nat.le_trans (j.out.trans (f.out.trans h)).size (by simp)) ?_;intro Z w5 a e g;have p:=hid a;have o:=hid e;clear a e g))
     go_roundw
     case rel=>
      have t:=bg C
      refine⟨k+1,by omega,by go_num,?_,((j.trans (f.trans h)).alloc _).grown o fun q J=>t q J⟩
      rw[H.out,bh]
      exact p
     case measure=>simp[intOf];omega
    ·have s:=m.out
     simp only[(by decide:¬(2:Int)=1),(by decide:¬(2:Int)=0),if_false,agW_2]at s
     rw[s]at H
     have y:=hid (G _ f B)
     have R:=u B
     clear s m G u
     generalize ex.tx 1=L at*
     go_wp2_with (first|(go_at_call 50;(with_reducible refine y.out.mono ?_);rintro _ K ⟨rfl,h⟩)|(at_builtin;generalize ⟨#[67,79,85,78,84]⟩++⟨#[40]⟩++L++⟨#[41]⟩=P at*;refine wpList_append_any _ rfl (.tmp 29) (.tmp 40) 101 rfl w.heap.size 9 U _ 1 16 underlying101 hi D E F rfl (by decide) _ (k) _ rfl ((ownN_ext C.out (f.out.trans h)).alloc _) _ _ 1 1 [.string P] rfl (reads_new1 K _ _) (by simp[Value.oneCell']) (by unfold maxLen;omega) (by omega) (Nat.le_trans (j.out.trans (f.out.trans h)).size (by simp)) ?_;intro Z w5 a e g;have p:=hid a;have o:=hid e;clear a e g))
     go_roundw
     case rel=>
      have t:=bg C
      refine⟨k+1,by omega,by go_num,?_,((j.trans (f.trans h)).alloc _).grown o fun q J=>t q J⟩
      rw[H.out,bh]
      exact p
     case measure=>simp[intOf];omega
    ·have s:=m.out
     simp only[(by decide:¬(3:Int)=1),(by decide:¬(3:Int)=0),if_false,agW_3]at s
     rw[s]at H
     have y:=hid (G _ f B)
     have R:=u B
     clear s m G u
     generalize ex.tx 1=L at*
     go_wp2_with (first|(go_at_call 50;(with_reducible refine y.out.mono ?_);rintro _ K ⟨rfl,h⟩)|(at_builtin;generalize ⟨#[83,85,77]⟩++⟨#[40]⟩++L++⟨#[41]⟩=P at*;refine wpList_append_any _ rfl (.tmp 29) (.tmp 40) 101 rfl w.heap.size 9 U _ 1 16 underlying101 hi D E F rfl (by decide) _ (k) _ rfl ((ownN_ext C.out (f.out.trans h)).alloc _) _ _ 1 1 [.string P] rfl (reads_new1 K _ _) (by simp[Value.oneCell']) (by unfold maxLen;omega) (by omega) (Nat.le_trans (j.out.trans (f.out.trans h)).size (by simp)) ?_;intro Z w5 a e g;have p:=hid a;have o:=hid e;clear a e g))
     go_roundw
     case rel=>
      have t:=bg C
      refine⟨k+1,by omega,by go_num,?_,((j.trans (f.trans h)).alloc _).grown o fun q J=>t q J⟩
      rw[H.out,bh]
      exact p
     case measure=>simp[intOf];omega
    ·have s:=m.out
     simp only[(by decide:¬(4:Int)=1),(by decide:¬(4:Int)=0),if_false,agW_4]at s
     rw[s]at H
     have y:=hid (G _ f B)
     have R:=u B
     clear s m G u
     generalize ex.tx 1=L at*
     go_wp2_with (first|(go_at_call 50;(with_reducible refine y.out.mono ?_);rintro _ K ⟨rfl,h⟩)|(at_builtin;generalize ⟨#[77,73,78]⟩++⟨#[40]⟩++L++⟨#[41]⟩=P at*;refine wpList_append_any _ rfl (.tmp 29) (.tmp 40) 101 rfl w.heap.size 9 U _ 1 16 underlying101 hi D E F rfl (by decide) _ (k) _ rfl ((ownN_ext C.out (f.out.trans h)).alloc _) _ _ 1 1 [.string P] rfl (reads_new1 K _ _) (by simp[Value.oneCell']) (by unfold maxLen;omega) (by omega) (Nat.le_trans (j.out.trans (f.out.trans h)).size (by simp)) ?_;intro Z w5 a e g;have p:=hid a;have o:=hid e;clear a e g))
     go_roundw
     case rel=>
      have t:=bg C
      refine⟨k+1,by omega,by go_num,?_,((j.trans (f.trans h)).alloc _).grown o fun q J=>t q J⟩
      rw[H.out,bh]
      exact p
     case measure=>simp[intOf];omega
    ·have s:=m.out
     simp only[(by decide:¬(5:Int)=1),(by decide:¬(5:Int)=0),if_false,agW_5]at s
     rw[s]at H
     have y:=hid (G _ f B)
     have R:=u B
     clear s m G u
     generalize ex.tx 1=L at*
     go_wp2_with (first|(go_at_call 50;(with_reducible refine y.out.mono ?_);rintro _ K ⟨rfl,h⟩)|(at_builtin;generalize ⟨#[77,65,88]⟩++⟨#[40]⟩++L++⟨#[41]⟩=P at*;refine wpList_append_any _ rfl (.tmp 29) (.tmp 40) 101 rfl w.heap.size 9 U _ 1 16 underlying101 hi D E F rfl (by decide) _ (k) _ rfl ((ownN_ext C.out (f.out.trans h)).alloc _) _ _ 1 1 [.string P] rfl (reads_new1 K _ _) (by simp[Value.oneCell']) (by unfold maxLen;omega) (by omega) (Nat.le_trans (j.out.trans (f.out.trans h)).size (by simp)) ?_;intro Z w5 a e g;have p:=hid a;have o:=hid e;clear a e g))
     go_roundw
     case rel=>
      have t:=bg C
      refine⟨k+1,by omega,by go_num,?_,((j.trans (f.trans h)).alloc _).grown o fun q J=>t q J⟩
      rw[H.out,bh]
      exact p
     case measure=>simp[intOf];omega
   ·obtain rfl:k=n:=by omega
    rw[take_of_length_le (Nat.le_of_eq HL)]at C
    have HJ:=hid (eu _ _ _ _ wr C HZ)
    go_wp2_with (go_at_call 87;refine HJ.mono ?_;rintro _ K ⟨rfl,h⟩)
    go_ret
    exact⟨rfl,j.trans h⟩
structure Two (w:World) (B:Nat) (v:Value) (n:Nat) (l:List BA) (u:Value) (m:Nat) (l':List BA):Prop where
 one:w.ownsRow B 9 1 v n (fH l)
 two:w.ownsRow B 9 1 u m (fH l')
 apart:∀q,v.ownBlock=some q→u.ownBlock≠some q
theorem Two.ext {w w':World} {B n m:Nat} {v u:Value} {l b:List BA} (h:Two w B v n l u m b) (a:Ext w w'):Two w' B v n l u m b:=⟨ownN_ext h.one a,ownN_ext h.two a,h.apart⟩
theorem Two.symm {w:World} {B n m:Nat} {v u:Value} {l a:List BA} (h:Two w B v n l u m a):Two w B u m a v n l:=⟨h.two,h.one,fun q b e=>h.apart q e b⟩
theorem Two.step {f g:World} {B n m:Nat} {v u b:Value} {l j:List BA} {x:BA} (h:Two f B v n l u m j) (o:f.grownBy g v.ownBlock) (a:b.ownBlock=v.ownBlock∨b.ownBlock=some f.heap.size)
  (p:g.ownsRow B 9 1 b (n+1) (fH l++ [.string x])):Two g B b (n+1) (l++ [x]) u m j:=by
 refine⟨by rw[bh];exact p,h.two.kept o ?_,fun q e i=>?_⟩
 ·cases r:u.ownBlock with
  |none=>exact .inl rfl
  |some q=>exact .inr fun k=>h.apart q k.symm r
 ·rcases a with a|a
  ·exact h.apart q (a.symm.trans e) i
  ·rw[a]at e
   have:=Option.some.inj e
   have:=(h.two.lt q i).2
   omega
theorem src_assoc {x:Src} (h:¬x.al.size=0):x.tx=x.tb++(⟨#[32,65,83,32]⟩++x.al):=by
 unfold Src.tx
 rw[if_neg h,ByteArray.append_assoc]
theorem rsel_any (s:St) (a:SA) (w:World) (I:StV w s a) (P:s.qOk=true) (hw:s.whr.absent=true∨s.whr.formed=true) (hF:s.Fits) (hb:s.bulk≤1048576):
  Cl 89 #[s.val a] w (Rt (.string s.sel) w):=by
 obtain⟨i0,hi,ac,ad,ag⟩:=info_parts gN
 obtain⟨Y,bw,a4,Z,b6,b7⟩:=sY P
 have bx:=gO s hb
 have b3:=dS s hb
 have cd:a.frm.n≤1048576:=by have:=I.frm.1;omega
 have ci:a.ord.n≤1048576:=by have:=I.ord.1;omega
 have H1:=hid (fun W (J:Ext w W)=>wJ s.itms a.itms.A a.itms.n a.itms.c W I.itms.1 (by have:=I.itms.1;omega) (I.itms.2.2.ext J) Y hF.itms (Nat.le_trans (bb Itm.tx bkI 100 s.itms fun x y=>pL (List.all_eq_true.1 Y x y)) (by omega)))
 have H3:=hid (fun W (J:Ext w W)=>pQ s a W (I.whr.ext J) hw hF.whr)
 have H4:=hid (fun W (J:Ext w W)=>pO s.grp a.grp.A a.grp.n a.grp.c W I.grp.1 (I.grp.2.2.ext J) a4 hF.grp)
 have H6:=hid (fun W=>iM s.lim W (by omega) (by omega))
 have bo:Hid (bX (s.frm.map Src.tx)≤1000000000):=Nat.le_trans (bb Src.tx bkF 100 s.frm fun x y=>jR x) (by omega)
 have aS:Hid (bX (s.ord.map Ord'.tx)≤1000000000):=Nat.le_trans (bb Ord'.tx bkO 100 s.ord fun x y=>jS (List.all_eq_true.1 Z x y)) (by omega)
 have a9:=hid bw
 have ba:=hid Z
 have Q:=hid I.frm
 have R:=hid I.ord
 have z1:=pP s Y bx.2.2.2.2.2.1
 have z2:(cma (s.frm.map Src.tx)).size≤104857600:=Nat.le_trans (aW _) (Nat.le_trans (bb Src.tx bkF 100 s.frm fun x y=>jR x) (by omega))
 have z3:=jT s hw hF.whr
 have z4:(exsT s.grp).size≤100000:=Nat.le_trans (aW _) (Nat.le_trans (gL a4) (by have:=hF.grp;omega))
 have z5:(cma (s.ord.map Ord'.tx)).size≤104857600:=Nat.le_trans (aW _) (Nat.le_trans (bb Ord'.tx bkO 100 s.ord fun x y=>jS (List.all_eq_true.1 Z x y)) (by omega))
 have z6:=Nat.le_trans (bE s.lim (by omega) (by omega)) (show 21≤1000 by omega)
 have D0:Hid (s.sel0=⟨#[83,69,76,69,67,84,32]⟩++s.itT++⟨#[32,70,82,79,77,32]⟩++cma (s.frm.map Src.tx)++s.whT):=rfl
 have D1:Hid (s.sel1=if s.grp.length=0 then s.sel0 else s.sel0++(⟨#[32,71,82,79,85,80,32,66,89,32]⟩++exsT s.grp)):=rfl
 have D2:Hid (s.sel2=if s.ord.length=0 then s.sel1 else s.sel1++(⟨#[32,79,82,68,69,82,32,66,89,32]⟩++cma (s.ord.map Ord'.tx))):=rfl
 have D3:Hid (s.sel=if 0<s.lim then s.sel2++(⟨#[32,76,73,77,73,84,32]⟩++itoB s.lim)else s.sel2):=rfl
 have DI:Hid (s.itT=if s.itms.length=0 then ⟨#[42]⟩else cma (s.itms.map Itm.tx)):=rfl
 rw[←DI.out]at H1
 rw[I.grp.1]at D1
 rw[I.ord.1]at D2
 have y0:s.sel0.size≤300000000:=by
  rw[D0.out];simp only[ByteArray.size_append];show 7+_+6+_+_≤_;omega
 have y1:s.sel1.size≤300100100:=by
  rw[D1.out];refine aO _ _ _ _ (by omega) ?_;simp only[ByteArray.size_append];show _+(10+_)≤_;omega
 have y2:s.sel2.size≤500000000:=by
  rw[D2.out];refine aO _ _ _ _ (by omega) ?_;simp only[ByteArray.size_append];show _+(10+_)≤_;omega
 have G:=hid (Blk.of_new w 40 (s.cells a))
 have HX:=hid (x10 w (.cells (s.cells a).toArray 40))
 clear I P hw hF hb Y bw a4 Z b6 b7 bx b3 DI
 unfold St.val at*
 unfold St.cells Sl.v at*
 generalize s.sel=O3 at*
 generalize s.sel2=O2 at*
 generalize s.sel1=O1 at*
 generalize s.sel0=O0 at*
 generalize s.itT=TI at*
 generalize s.whT=TW at*
 generalize exsT s.grp=TG at*
 generalize itoB s.lim=TL at*
 go_enter func89,ntmps89
 go_upto_region 1 with fail
 generalize w.alloc (.cells _ 40)=u at*
 generalize w.heap.size=g at*
 go_wp2_with fail
 have a8:=hid ((fF u 9 1 0 0 0 u.heap.size #[] (Nat.le_refl _) rfl (by decide)).alloc (.cells #[] 9))
 have a2:=fF (u.alloc (.cells #[] 9)) 9 1 0 0 0 u.heap.size #[] (by simp) rfl (by decide)
 rw[show(u.alloc (.cells #[] 9)).heap.size=u.heap.size+1 by simp]at a2
 have an:Hid (Two ((u.alloc (.cells #[] 9)).alloc (.cells #[] 9)) u.heap.size (.slice (some ⟨u.heap.size,0,none⟩) 0 0) 0 [] (.slice (some ⟨u.heap.size+1,0,none⟩) 0 0) 0 []):=⟨a8,a2,fun q h1 h2=>by
  have h1:some u.heap.size=some q:=h1
  have h2:some (u.heap.size+1)=some q:=h2
  have:=h1.trans h2.symm
  have:=Option.some.inj this
  omega⟩
 have be:=hid ((x10 u (.cells #[] 9)).alloc (.cells #[] 9))
 have C:Hid (u.heap.size≤u.heap.size):=Nat.le_refl _
 clear a8 a2
 generalize (u.alloc (.cells #[] 9)).alloc (.cells #[] 9)=W2 at*
 obtain⟨O,a0⟩:∃O,u.heap.size=O:=⟨_,rfl⟩
 have H:=hid a0
 rw[a0]at an C ⊢
 replace C:Hid (u.heap.size≤O):=by unfold Hid;omega
 have cc:=C
 clear a0
 go_loopw [3,5] (fun nv iv wr=> ∃(k:Nat),k≤a.frm.n∧iv= i4 k∧Two wr O nv k ((s.frm.take k).map Src.tx) (.slice (some ⟨O+1,0,none⟩) 0 0) 0 []∧Ext u wr) (fun _ i _=>a.frm.n- (intOf i).toNat)
 case atStart=>exact⟨0,Nat.zero_le _,rfl,an,be⟩
 case round=>
  obtain⟨k,b2,rfl,K,t⟩:=hrel
  have h:=hid K
  have o:=hid t
  clear K
  have cb:=(G.ext t).cell 9
  simp only[g10,g11]at cb
  by_cases a1:k<a.frm.n
  ·obtain⟨x,y⟩:=aC Q.1 a1
   obtain⟨hc,b,a5,hA,q0,q1⟩:=(Q.2.2.ext (HX.trans t)) k x y
   rw[hA]at cb
   have b4:=src_nm (List.all_eq_true.1 a9 x (mem_of_getElem? y))
   have U:Hid ((s.frm.take (k+1)).map Src.tx=(s.frm.take k).map Src.tx++ [x.tx]):=by unfold Hid;rw[ez y,map_append];rfl
   clear y t hA hc
   obtain⟨n1,n2⟩:=b4
   by_cases h0:x.al.size=0
   ·have m:x.tx=x.tb:=by unfold Src.tx;rw[if_pos h0]
    rw[m]at U
    have bv:=bF h0
    rw[bv]at q1
    clear m h0 bv n2
    generalize x.tb=tb at*
    go_wp2_with (at_builtin;refine wpList_append_any _ rfl (.tmp 41) (.tmp 43) 101 rfl O 9 i0 _ 1 16 underlying101 hi ac ad ag rfl (by decide) _ k _ rfl (h.out.one.alloc _) _ _ 1 1 [.string tb] rfl (reads_new1 wr _ _) (by simp[Value.oneCell']) (by unfold maxLen;omega) (by omega) (Nat.le_trans (Nat.le_of_eq H.out.symm) (Nat.le_trans (o.out).size (by simp))) ?_;intro v1 w5 f j e;have E:=hid f;have p:=hid j;have D:=hid e;clear f j e)
    go_roundw
    case rel=>
     have F:=bg h.one
     refine⟨k+1,by omega,by go_num,?_,(o.alloc _).grown p fun q P=>Nat.le_trans C (F q P)⟩
     rw[U.out]
     exact Two.step (h.ext (x10 _ _)) p D E
    case measure=>simp[intOf];omega
   ·have m:=src_assoc h0
    rw[m]at U
    have v1:=bV h0
    have v2:=bH h0
    clear m h0
    generalize x.tb=tb at*
    generalize x.al=al at*
    go_wp2_with (at_builtin;generalize tb++(⟨#[32,65,83,32]⟩++al)=TB at*;refine wpList_append_any _ rfl (.tmp 41) (.tmp 43) 101 rfl O 9 i0 _ 1 16 underlying101 hi ac ad ag rfl (by decide) _ k _ rfl (h.out.one.alloc _) _ _ 1 1 [.string TB] rfl (reads_new1 wr _ _) (by simp[Value.oneCell']) (by unfold maxLen;omega) (by omega) (Nat.le_trans (Nat.le_of_eq H.out.symm) (Nat.le_trans (o.out).size (by simp))) ?_;intro v1 w5 f j e;have E:=hid f;have p:=hid j;have D:=hid e;clear f j e)
    go_roundw
    case rel=>
     have F:=bg h.one
     refine⟨k+1,by omega,by go_num,?_,(o.alloc _).grown p fun q P=>Nat.le_trans C (F q P)⟩
     rw[U.out]
     exact Two.step (h.ext (x10 _ _)) p D E
    case measure=>simp[intOf];omega
  ·obtain rfl:k=a.frm.n:=by omega
   rw[take_of_length_le (Nat.le_of_eq Q.1)]at h
   go_wp2_with fail
   have bd:=hid h.symm
   have bn:=o
   clear cb t h o an be
   go_loopw [4,7] (fun nv iv wr=> ∃(k:Nat),k≤a.ord.n∧iv= i4 k∧Two wr O nv k ((s.ord.take k).map Ord'.tx) u3 a.frm.n (s.frm.map Src.tx)∧Ext u wr) (fun _ i _=>a.ord.n- (intOf i).toNat)
   case atStart=>exact⟨0,Nat.zero_le _,rfl,bd,bn⟩
   case round=>
    obtain⟨k,b2,rfl,K,t⟩:=hrel
    have h:=hid K
    have o:=hid t
    clear K
    have cb:=(G.ext t).cell 19
    simp only[g10,g11]at cb
    by_cases a1:k<a.ord.n
    ·obtain⟨x,y⟩:=aC R.1 a1
     obtain⟨hc,b,a5,hA,q0,q1⟩:=(R.2.2.ext (HX.trans t)) k x y
     rw[hA]at cb
     have a3:=List.all_eq_true.1 ba x (mem_of_getElem? y)
     unfold Ord'.ok at a3
     rw[dC]at a3
     have U:Hid ((s.ord.take (k+1)).map Ord'.tx=(s.ord.take k).map Ord'.tx++ [x.tx]):=by unfold Hid;rw[ez y,map_append];rfl
     have HN:=hid (iM x.it wr (by omega) (by omega))
     have cj:=Nat.le_trans (bE x.it (by omega) (by omega)) (show 21≤1000 by omega)
     have V:Hid (x.tx=if x.ds=true then itoB x.it++⟨#[32,68,69,83,67]⟩else itoB x.it):=rfl
     have HQ:Hid (∀W,Ext wr W→W.cell? ⟨g,19,none⟩=some (.slice (some ⟨b,a5,none⟩) a.ord.n a.ord.c)∧W.cell? ⟨b,a5+k*2+1,none⟩=some (.bool x.ds)):=fun W J=>⟨J.keep cb,J.keep q1⟩
     clear y t hA hc a3 q1
     generalize Ord'.tx x=TX at*
     generalize itoB x.it=TN at*
     obtain⟨it,ds⟩:=x
     simp only at*
     cases ds
     ·have m:=V.out
      simp only[Bool.false_eq_true,if_false]at m
      rw[m]at U
      clear m V
      go_wp2_with (first|(go_at_call 91;(with_reducible refine HN.out.mono ?_);rintro _ w2 ⟨rfl,l⟩;obtain⟨e0,e1⟩:=HQ.out _ l)|(at_builtin;refine wpList_append_any _ rfl (.tmp 67) (.tmp 69) 101 rfl O 9 i0 _ 1 16 underlying101 hi ac ad ag rfl (by decide) _ k _ rfl ((ownN_ext h.out.one l).alloc _) _ _ 1 1 [.string TN] rfl (reads_new1 w2 _ _) (by simp[Value.oneCell']) (by unfold maxLen;omega) (by omega) (Nat.le_trans (Nat.le_of_eq H.out.symm) (Nat.le_trans (o.out.trans l).size (by simp))) ?_;intro v1 w5 f j e;have E:=hid f;have p:=hid j;have D:=hid e;clear f j e))
      go_roundw
      case rel=>
       have F:=bg h.one
       refine⟨k+1,by omega,by go_num,?_,((o.trans l).alloc _).grown p fun q P=>Nat.le_trans C (F q P)⟩
       rw[U.out]
       exact Two.step (h.ext (l.alloc _)) p D E
      case measure=>simp[intOf];omega
     ·have m:=V.out
      simp only[if_true]at m
      rw[m]at U
      clear m V
      go_wp2_with (first|(go_at_call 91;(with_reducible refine HN.out.mono ?_);rintro _ w2 ⟨rfl,l⟩;obtain⟨e0,e1⟩:=HQ.out _ l)|(at_builtin;generalize TN++⟨#[32,68,69,83,67]⟩=TB at*;refine wpList_append_any _ rfl (.tmp 67) (.tmp 69) 101 rfl O 9 i0 _ 1 16 underlying101 hi ac ad ag rfl (by decide) _ k _ rfl ((ownN_ext h.out.one l).alloc _) _ _ 1 1 [.string TB] rfl (reads_new1 w2 _ _) (by simp[Value.oneCell']) (by unfold maxLen;omega) (by omega) (Nat.le_trans (Nat.le_of_eq H.out.symm) (Nat.le_trans (o.out.trans l).size (by simp))) ?_;intro v1 w5 f j e;have E:=hid f;have p:=hid j;have D:=hid e;clear f j e))
      go_roundw
      case rel=>
       have F:=bg h.one
       refine⟨k+1,by omega,by go_num,?_,((o.trans l).alloc _).grown p fun q P=>Nat.le_trans C (F q P)⟩
       rw[U.out]
       exact Two.step (h.ext (l.alloc _)) p D E
      case measure=>simp[intOf];omega
    ·obtain rfl:k=a.ord.n:=by omega
     rw[take_of_length_le (Nat.le_of_eq R.1)]at h
     clear Q R a9 ba bd bn
     obtain⟨oA,oc,b5,_,_⟩:=pN h.one fun x y=>by have:=fG y;have:=aS.out;omega
     subst b5
     go_upto_region 16 with fail
     replace G:=hid (G.ext o)
     have ax:=hid (HX.trans o)
     have a6:=hid (fun W (J:Ext wr W)=>eu _ _ _ _ W (ownN_ext h.two J) bo)
     have a7:=hid (fun W (J:Ext wr W)=>eu _ _ _ _ W (ownN_ext h.one J) aS)
     clear cb t o h bo aS
     generalize cma (s.frm.map Src.tx)=TS at*
     generalize cma (s.ord.map Ord'.tx)=TO at*
     have K1:Hid (∀z:ai wr,Cl 160 _ z.now _):=fun z=>H1 z.now (ax.trans z.ext)
     have K2:Hid (∀z:ai wr,Cl 87 _ z.now _):=fun z=>a6 z.now z.ext
     have K3:Hid (∀z:ai wr,Cl 88 _ z.now _):=fun z=>H3 z.now (ax.trans z.ext)
     have l8:=ai.keep (G.cell_some (i:=8) rfl)
     refine af (by kernel_rfl) (by kernel_rfl) ?_
     repeat (first|(refine cT rfl 40 (.tmp 1) rfl g rfl 40 _ _ (gk G) underlying40 rfl (by kernel_rfl) ?_;go_simp)|go_big_quiet_step (first|(go_at_call 160;with_reducible exact aq (K1.out _))|(go_at_call 87;with_reducible exact aq (K2.out _))|(go_at_call 88;with_reducible exact aq (K3.out _))))
     refine wpQuiet_nil ?_
     first|(intro wb bN;have L:=am bN;clear bN)|(intro xb;have L:=xb.ext;generalize xb.now=wb at*;clear xb)
     have b1:=D0.out
     generalize ⟨#[83,69,76,69,67,84,32]⟩++TI++⟨#[32,70,82,79,77,32]⟩++TS++TW=TX at*
     subst b1
     replace G:=hid (G.ext L)
     have bf:=hid (ax.trans L)
     have X:=hid L
     clear L K2 K3 K1 H1 H3 a6 l8 D0
     have bY:=(G).cell 18
     simp only[g10,g11]at bY
     go_upto_if 85 with fail
     go_cut [9] from 82 to 91 (fun ov wx=>ov= .string O1∧Ext wb wx)
     case first=>
      by_cases hn:0<a.grp.n
      ·have m:=D1.out
       rw[if_neg (by omega)]at m
       go_wp2_with (go_at_call 86;(with_reducible refine(H4.out _ bf.out).mono ?_);rintro _ w2 ⟨rfl,l⟩)
       go_meet
       exact⟨by rw[m],l⟩
      ·have m:=D1.out
       rw[if_pos (by omega)]at m
       subst m
       go_wp2_with fail
       go_meet
       exact⟨rfl,Ext.refl _⟩
     case rest=>
      obtain⟨rfl,B⟩:=hcut
      generalize wc=wd at*
      have b0:=hid (bf.trans B)
      replace X:=hid (X.trans B)
      replace G:=hid (G.ext B)
      clear B H4 D1 bY y0
      go_upto_if 94 with fail
      go_cut [9] from 92 to 99 (fun ov wx=>ov= .string O2∧Ext wd wx)
      case first=>
       by_cases hn:0<a.ord.n
       ·have m:=D2.out
        rw[if_neg (by omega)]at m
        go_wp2_with (go_at_call 87;(with_reducible refine(a7.out _ X.out).mono ?_);rintro _ w2 ⟨rfl,l⟩)
        go_meet
        exact⟨by rw[m],l⟩
       ·have m:=D2.out
        rw[if_pos (by omega)]at m
        subst m
        go_wp2_with fail
        go_meet
        exact⟨rfl,Ext.refl _⟩
      case rest=>
       obtain⟨rfl,B⟩:=hcut
       generalize wc=we at*
       have bm:=hid (b0.trans B)
       replace G:=hid (G.ext B)
       clear B a7 D2 y1 X
       have b9:=(G).cell 20
       simp only[g10,g11]at b9
       have m:=D3.out
       by_cases hn:0<s.lim
       ·rw[if_pos hn]at m
        have hd:decide (0<s.lim)=true:=by simpa using hn
        clear hn
        go_wp2_with (go_at_call 91;(with_reducible refine(H6.out _).mono ?_);rintro _ w2 ⟨rfl,l⟩)
        go_ret
        exact⟨fR m.symm,bm.trans l⟩
       ·rw[if_neg hn]at m
        have hd:decide (0<s.lim)=false:=by simpa using hn
        clear hn
        subst m
        go_wp2_with fail
        go_ret
        exact⟨rfl,bm⟩
end Go.Proofs.YtjigcpfjhfoheaaGreatDoor
