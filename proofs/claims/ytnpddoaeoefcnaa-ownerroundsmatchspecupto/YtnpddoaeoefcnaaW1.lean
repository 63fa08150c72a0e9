/- printed walks -/
import Derived.Test.YtnpddoaeoefcnaaT1
namespace Go.Proofs.Ytnpddoaeoefcnaa
open Go.Sk Go
set_option maxHeartbeats 4000000
set_option maxRecDepth 4000
set_option linter.unusedSimpArgs false
set_option linter.unusedVariables false
theorem undi154:Try.prog.underlying 154 = some (.int .u64):=Try.underlying154
theorem undi5:Try.prog.underlying 5 = some (.int .u8):=Try.underlying5
theorem und9:Try.prog.underlying 9 = some .string:=Try.underlying9
theorem vT:Try.prog.underlying 3 = some (.int .i64):=Try.underlying3
theorem goes110:cK Try.prog 110:=⟨Try.call110⟩
theorem goes100:cK Try.prog 100:=⟨Try.call100⟩
theorem bR:Try.prog.underlying 22 = some (.slice 3):=Try.underlying22
theorem ti:Try.prog.underlying 138 = some (.int .u64):=Try.underlying138
theorem goes99:cK Try.prog 99:=⟨Try.call99⟩
theorem goes98:cK Try.prog 98:=⟨Try.call98⟩
theorem jr:Try.prog.underlying 23 = some (.slice 22):=Try.underlying23
theorem bY:jJ Try.prog 23 22 1 24 [.nil]:=⟨Try.underlying23,⟨Try.t22,_,by kernel_rfl,rfl,rfl,rfl,rfl,by decide,rfl⟩⟩
theorem aN:fq Try.prog 22:=⟨⟨_,Try.underlying22,rfl⟩,⟨Try.t22,by kernel_rfl,by kernel_rfl⟩⟩
theorem aQ:jJ Try.prog 22 3 1 8 [.i 0]:=⟨Try.underlying22,⟨Try.t3,_,by kernel_rfl,rfl,rfl,rfl,rfl,by decide,rfl⟩⟩
theorem aD:fq Try.prog 3:=⟨⟨_,Try.underlying3,rfl⟩,⟨Try.t3,by kernel_rfl,by kernel_rfl⟩⟩
theorem mixed:Try.prog.follows .mixedOrders = true:=by kernel_rfl
theorem goes77:cK Try.prog 77:=⟨Try.call77⟩
theorem goes76:cK Try.prog 76:=⟨Try.call76⟩
theorem xT:cK Try.prog 75:=⟨Try.call75⟩
theorem lb:cI Try.prog 119 0 0 117:=⟨⟨_,_,Try.t117,Try.underlying119,rfl,rfl,rfl,by kernel_rfl,by decide⟩⟩
theorem nI:fq Try.prog 117:=⟨⟨_,Try.underlying117,rfl⟩,⟨Try.t117,by kernel_rfl,by kernel_rfl⟩⟩
theorem th:Try.prog.underlying 117 = some (.map 3 3):=Try.underlying117
theorem jv:oO Try.prog 117 3 3 .i64 (.i 0):=⟨Try.underlying117,Try.underlying3,⟨Try.t3,_,by kernel_rfl,rfl,fun _=>⟨rfl,by decide,by decide⟩⟩⟩
theorem kf:j9 Try.prog 119 1:=⟨⟨_,Try.underlying119,rfl⟩,⟨Try.t119,by kernel_rfl,by kernel_rfl⟩⟩
theorem s9:cK Try.prog 93:=⟨Try.call93⟩
theorem xQ:cK Try.prog 91:=⟨Try.call91⟩
theorem vm:lS Try.prog 119 [(0,1)] [.raw (.map none)]:=⟨⟨Try.t119,_,_,by kernel_rfl,rfl,rfl,Try.underlying119,by kernel_rfl⟩⟩
theorem wP:o8 Try.prog 119 [.raw (.map none)]:=⟨⟨Try.t119,_,by kernel_rfl,rfl,rfl⟩⟩
theorem und60:Try.prog.underlying 60 = some (.slice 23):=Try.underlying60
theorem o7:jJ Try.prog 60 23 1 24 [.nil]:=⟨Try.underlying60,⟨Try.t23,_,by kernel_rfl,rfl,rfl,rfl,rfl,by decide,rfl⟩⟩
theorem dT:fq Try.prog 23:=⟨⟨_,Try.underlying23,rfl⟩,⟨Try.t23,by kernel_rfl,by kernel_rfl⟩⟩
theorem goes71:cK Try.prog 71:=⟨Try.call71⟩
theorem goes72:cK Try.prog 72:=⟨Try.call72⟩
theorem qd:cK Try.prog 31:=⟨Try.call31⟩
theorem goes92:cK Try.prog 92:=⟨Try.call92⟩
theorem kO:lS Try.prog 59 [(0,1),(1,1),(2,1)] [.i 0,.nil,.nil]:=⟨⟨Try.t59,_,_,by kernel_rfl,rfl,rfl,Try.underlying59,by kernel_rfl⟩⟩
theorem fF:jJ Try.prog 29 59 3 56 [.i 0,.nil,.nil]:=⟨Try.underlying29,⟨Try.t59,_,by kernel_rfl,rfl,rfl,rfl,rfl,by decide,rfl⟩⟩
theorem tf:cK Try.prog 42:=⟨Try.call42⟩
theorem xU:cK Try.prog 70:=⟨Try.call70⟩
theorem goes80:cK Try.prog 80:=⟨Try.call80⟩
theorem goes94:cK Try.prog 94:=⟨Try.call94⟩
theorem goes79:cK Try.prog 79:=⟨Try.call79⟩
theorem bm:cI Try.prog 95 0 0 31:=⟨⟨_,_,Try.t31,Try.underlying95,rfl,rfl,rfl,by kernel_rfl,by decide⟩⟩
theorem jL:cI Try.prog 31 2 2 3:=⟨⟨_,_,Try.t3,Try.underlying31,rfl,rfl,rfl,by kernel_rfl,by decide⟩⟩
theorem cJ:cI Try.prog 31 0 0 3:=⟨⟨_,_,Try.t3,Try.underlying31,rfl,rfl,rfl,by kernel_rfl,by decide⟩⟩
theorem mE:cI Try.prog 42 1 1 3:=⟨⟨_,_,Try.t3,Try.underlying42,rfl,rfl,rfl,by kernel_rfl,by decide⟩⟩
theorem dR:cI Try.prog 42 2 2 3:=⟨⟨_,_,Try.t3,Try.underlying42,rfl,rfl,rfl,by kernel_rfl,by decide⟩⟩
theorem jh:cI Try.prog 95 1 10 32:=⟨⟨_,_,Try.t32,Try.underlying95,rfl,rfl,rfl,by kernel_rfl,by decide⟩⟩
theorem jX:fq Try.prog 32:=⟨⟨_,Try.underlying32,rfl⟩,⟨Try.t32,by kernel_rfl,by kernel_rfl⟩⟩
theorem gb:j9 Try.prog 42 7:=⟨⟨_,Try.underlying42,rfl⟩,⟨Try.t42,by kernel_rfl,by kernel_rfl⟩⟩
theorem iL:jJ Try.prog 32 42 7 104 [.i 0,.i 0,.i 0,.i 0,.nil,.nil,.nil]:=⟨Try.underlying32,⟨Try.t42,_,by kernel_rfl,rfl,rfl,rfl,rfl,by decide,rfl⟩⟩
theorem sj:Try.prog.underlying 28 = some (.slice 4):=Try.underlying28
theorem dK:jJ Try.prog 28 4 1 1 [.bool false]:=⟨Try.underlying28,⟨Try.t4,_,by kernel_rfl,rfl,rfl,rfl,rfl,by decide,rfl⟩⟩
theorem gx:fq Try.prog 4:=⟨⟨_,Try.underlying4,rfl⟩,⟨Try.t4,by kernel_rfl,by kernel_rfl⟩⟩
theorem xr:Try.prog.underlying 4 = some .bool:=Try.underlying4
theorem goes90:cK Try.prog 90:=⟨Try.call90⟩
theorem dF:cI Try.prog 31 3 3 22:=⟨⟨_,_,Try.t22,Try.underlying31,rfl,rfl,rfl,by kernel_rfl,by decide⟩⟩
theorem cw:jJ Try.prog 24 9 1 16 [.str []]:=⟨Try.underlying24,⟨Try.t9,_,by kernel_rfl,rfl,rfl,rfl,rfl,by decide,rfl⟩⟩
theorem fG:fq Try.prog 9:=⟨⟨_,Try.underlying9,rfl⟩,⟨Try.t9,by kernel_rfl,by kernel_rfl⟩⟩
theorem er:cI Try.prog 31 4 4 28:=⟨⟨_,_,Try.t28,Try.underlying31,rfl,rfl,rfl,by kernel_rfl,by decide⟩⟩
theorem dd:fq Try.prog 28:=⟨⟨_,Try.underlying28,rfl⟩,⟨Try.t28,by kernel_rfl,by kernel_rfl⟩⟩
theorem uX:cK Try.prog 68:=⟨Try.call68⟩
theorem gp:cI Try.prog 31 5 5 23:=⟨⟨_,_,Try.t23,Try.underlying31,rfl,rfl,rfl,by kernel_rfl,by decide⟩⟩
theorem c9:cI Try.prog 31 7 7 29:=⟨⟨_,_,Try.t29,Try.underlying31,rfl,rfl,rfl,by kernel_rfl,by decide⟩⟩
theorem ey:fq Try.prog 29:=⟨⟨_,Try.underlying29,rfl⟩,⟨Try.t29,by kernel_rfl,by kernel_rfl⟩⟩
theorem kW:Try.prog.underlying 29 = some (.slice 59):=Try.underlying29
theorem eG:cI Try.prog 31 8 8 28:=⟨⟨_,_,Try.t28,Try.underlying31,rfl,rfl,rfl,by kernel_rfl,by decide⟩⟩
theorem fR:j9 Try.prog 59 3:=⟨⟨_,Try.underlying59,rfl⟩,⟨Try.t59,by kernel_rfl,by kernel_rfl⟩⟩
theorem ke:o8 Try.prog 59 [.i 0,.nil,.nil]:=⟨⟨Try.t59,_,by kernel_rfl,rfl,rfl⟩⟩
theorem dE:cI Try.prog 59 1 1 22:=⟨⟨_,_,Try.t22,Try.underlying59,rfl,rfl,rfl,by kernel_rfl,by decide⟩⟩
theorem te:cK Try.prog 55:=⟨Try.call55⟩
theorem fJ:cI Try.prog 59 0 0 3:=⟨⟨_,_,Try.t3,Try.underlying59,rfl,rfl,rfl,by kernel_rfl,by decide⟩⟩
theorem gO:cI Try.prog 31 6 6 24:=⟨⟨_,_,Try.t24,Try.underlying31,rfl,rfl,rfl,by kernel_rfl,by decide⟩⟩
theorem b6:fq Try.prog 24:=⟨⟨_,Try.underlying24,rfl⟩,⟨Try.t24,by kernel_rfl,by kernel_rfl⟩⟩
theorem u4:cK Try.prog 56:=⟨Try.call56⟩
theorem kP:lS Try.prog 42 [(0,1),(1,1),(2,1),(3,1),(4,1),(5,1),(6,1)] [.i 0,.i 0,.i 0,.i 0,.nil,.nil,.nil]:=⟨⟨Try.t42,_,_,by kernel_rfl,rfl,rfl,Try.underlying42,by kernel_rfl⟩⟩
theorem u9:cK Try.prog 43:=⟨Try.call43⟩
theorem hC:o8 Try.prog 31 [.i 0,.i 0,.i 0,.nil,.nil,.nil,.nil,.nil,.nil,.nil]:=⟨⟨Try.t31,_,by kernel_rfl,rfl,rfl⟩⟩
theorem goes41:cK Try.prog 41:=⟨Try.call41⟩
theorem lM:Try.prog.underlying 24 = some (.slice 9):=Try.underlying24
theorem iz:lS Try.prog 31 [(0,1),(1,1),(2,1),(3,1),(4,1),(5,1),(6,1),(7,1),(8,1),(9,1)] [.i 0,.i 0,.i 0,.nil,.nil,.nil,.nil,.nil,.nil,.nil]:=⟨⟨Try.t31,_,_,by kernel_rfl,rfl,rfl,Try.underlying31,by kernel_rfl⟩⟩
theorem aU:j9 Try.prog 31 10:=⟨⟨_,Try.underlying31,rfl⟩,⟨Try.t31,by kernel_rfl,by kernel_rfl⟩⟩
theorem qh:lS Try.prog 95 [(0,10),(10,1)] [.i 0,.i 0,.i 0,.nil,.nil,.nil,.nil,.nil,.nil,.nil,.nil]:=⟨⟨Try.t95,_,_,by kernel_rfl,rfl,rfl,Try.underlying95,by kernel_rfl⟩⟩
theorem ya:cK Try.prog 44:=⟨Try.call44⟩
theorem du:cI Try.prog 42 5 5 22:=⟨⟨_,_,Try.t22,Try.underlying42,rfl,rfl,rfl,by kernel_rfl,by decide⟩⟩
theorem fK:cI Try.prog 42 6 6 24:=⟨⟨_,_,Try.t24,Try.underlying42,rfl,rfl,rfl,by kernel_rfl,by decide⟩⟩
theorem fL:cI Try.prog 42 4 4 23:=⟨⟨_,_,Try.t23,Try.underlying42,rfl,rfl,rfl,by kernel_rfl,by decide⟩⟩
theorem xY:cK Try.prog 52:=⟨Try.call52⟩
theorem goes85:cK Try.prog 85:=⟨Try.call85⟩
theorem u6:cK Try.prog 51:=⟨Try.call51⟩
theorem xR:cK Try.prog 86:=⟨Try.call86⟩
theorem u5:cK Try.prog 54:=⟨Try.call54⟩
theorem goes97:cK Try.prog 97:=⟨Try.call97⟩
theorem goes89:cK Try.prog 89:=⟨Try.call89⟩
theorem goes88:cK Try.prog 88:=⟨Try.call88⟩
theorem goes96:cK Try.prog 96:=⟨Try.call96⟩
theorem tyZero3:o8 Try.prog 3 [.i 0]:=⟨⟨Try.t3,_,by kernel_rfl,rfl,rfl⟩⟩
theorem goes87:cK Try.prog 87:=⟨Try.call87⟩
theorem ep:cI Try.prog 31 9 9 24:=⟨⟨_,_,Try.t24,Try.underlying31,rfl,rfl,rfl,by kernel_rfl,by decide⟩⟩
theorem oq:cI Try.prog 42 3 3 3:=⟨⟨_,_,Try.t3,Try.underlying42,rfl,rfl,rfl,by kernel_rfl,by decide⟩⟩
theorem ot:cI Try.prog 31 1 1 3:=⟨⟨_,_,Try.t3,Try.underlying31,rfl,rfl,rfl,by kernel_rfl,by decide⟩⟩
theorem undm111:Try.prog.underlying 111 = some (.map 3 96):=Try.underlying111
theorem k6:oO Try.prog 111 3 96 .i64 (.raw .nilFunc):=⟨Try.underlying111,Try.underlying3,⟨Try.t96,_,by kernel_rfl,rfl,fun _=>⟨rfl,rfl⟩⟩⟩
theorem kN:cI Try.prog 42 0 0 3:=⟨⟨_,_,Try.t3,Try.underlying42,rfl,rfl,rfl,by kernel_rfl,by decide⟩⟩
theorem vU:∃ ps rs v,Try.prog.underlying 96 = some (.func ps rs v):=⟨_,_,_,Try.underlying96⟩
theorem goes62:cK Try.prog 62:=⟨Try.call62⟩
theorem goes63:cK Try.prog 63:=⟨Try.call63⟩
theorem goes64:cK Try.prog 64:=⟨Try.call64⟩
theorem xZ:cK Try.prog 50:=⟨Try.call50⟩
theorem goes53:cK Try.prog 53:=⟨Try.call53⟩
theorem iy:cI Try.prog 59 2 2 22:=⟨⟨_,_,Try.t22,Try.underlying59,rfl,rfl,rfl,by kernel_rfl,by decide⟩⟩
theorem qe:cK Try.prog 19:=⟨Try.call19⟩
theorem goes36:cK Try.prog 36:=⟨Try.call36⟩
theorem goes26:cK Try.prog 26:=⟨Try.call26⟩
theorem vf:cK Try.prog 11:=⟨Try.call11⟩
theorem pt:Try.prog.underlying 32 = some (.slice 42):=Try.underlying32
theorem rp:cK Try.prog 17:=⟨Try.call17⟩
theorem ve:cK Try.prog 20:=⟨Try.call20⟩
theorem yd:cK Try.prog 15:=⟨Try.call15⟩
theorem yb:cK Try.prog 32:=⟨Try.call32⟩
theorem vd:cK Try.prog 22:=⟨Try.call22⟩
theorem xV:cK Try.prog 69:=⟨Try.call69⟩
theorem vc:cK Try.prog 27:=⟨Try.call27⟩
theorem goes95:cK Try.prog 95:=⟨Try.call95⟩
theorem xS:cK Try.prog 81:=⟨Try.call81⟩
theorem goes82:cK Try.prog 82:=⟨Try.call82⟩
theorem goes83:cK Try.prog 83:=⟨Try.call83⟩
theorem k4:cK Try.prog 45:=⟨Try.call45⟩
theorem mB:o8 Try.prog 37 [.i 0,.i 0,.i 0,.nil,.nil,.nil,.nil,.nil,.nil,.nil,.nil,.i 0]:=⟨⟨Try.t37,_,by kernel_rfl,rfl,rfl⟩⟩
theorem goes84:cK Try.prog 84:=⟨Try.call84⟩
theorem tc:cK Try.prog 60:=⟨Try.call60⟩
theorem uZ:cK Try.prog 61:=⟨Try.call61⟩
theorem fM:lS Try.prog 37 [(0,10),(10,1),(11,1)] [.i 0,.i 0,.i 0,.nil,.nil,.nil,.nil,.nil,.nil,.nil,.nil,.i 0]:=⟨⟨Try.t37,_,_,by kernel_rfl,rfl,rfl,Try.underlying37,by kernel_rfl⟩⟩
theorem cP:j9 Try.prog 37 12:=⟨⟨_,Try.underlying37,rfl⟩,⟨Try.t37,by kernel_rfl,by kernel_rfl⟩⟩
theorem goes24:cK Try.prog 24:=⟨Try.call24⟩
theorem yc:cK Try.prog 25:=⟨Try.call25⟩
theorem x9:cK Try.prog 46:=⟨Try.call46⟩
theorem x8:cK Try.prog 47:=⟨Try.call47⟩
theorem x7:cK Try.prog 48:=⟨Try.call48⟩
theorem u7:cK Try.prog 49:=⟨Try.call49⟩
theorem tO:o8 Try.prog 42 [.i 0,.i 0,.i 0,.i 0,.nil,.nil,.nil]:=⟨⟨Try.t42,_,by kernel_rfl,rfl,rfl⟩⟩
theorem td:cK Try.prog 58:=⟨Try.call58⟩
theorem xX:cK Try.prog 57:=⟨Try.call57⟩
theorem u3:cK Try.prog 59:=⟨Try.call59⟩
theorem uY:cK Try.prog 65:=⟨Try.call65⟩
theorem xW:cK Try.prog 66:=⟨Try.call66⟩
theorem goes67:cK Try.prog 67:=⟨Try.call67⟩
theorem goes9:cK Try.prog 9:=⟨Try.call9⟩
theorem und25:Try.prog.underlying 25 = some (.slice 44):=Try.underlying25
theorem tg:cK Try.prog 10:=⟨Try.call10⟩
theorem goes12:cK Try.prog 12:=⟨Try.call12⟩
theorem sE:cI Try.prog 37 0 0 31:=⟨⟨_,_,Try.t31,Try.underlying37,rfl,rfl,rfl,by kernel_rfl,by decide⟩⟩
theorem yf:cK Try.prog 13:=⟨Try.call13⟩
theorem sD:cI Try.prog 37 1 10 32:=⟨⟨_,_,Try.t32,Try.underlying37,rfl,rfl,rfl,by kernel_rfl,by decide⟩⟩
theorem ye:cK Try.prog 14:=⟨Try.call14⟩
theorem sC:cI Try.prog 37 2 11 33:=⟨⟨_,_,Try.t33,Try.underlying37,rfl,rfl,rfl,by kernel_rfl,by decide⟩⟩
theorem wb:fq Try.prog 33:=⟨⟨_,Try.underlying33,rfl⟩,⟨Try.t33,by kernel_rfl,by kernel_rfl⟩⟩
theorem mZ:jJ Try.prog 25 44 10 144 [.i 0,.i 0,.i 0,.i 0,.nil,.nil,.nil,.bool false,.i 0,.nil]:=⟨Try.underlying25,⟨Try.t44,_,by kernel_rfl,rfl,rfl,rfl,rfl,by decide,rfl⟩⟩
theorem oo:cI Try.prog 44 0 0 42:=⟨⟨_,_,Try.t42,Try.underlying44,rfl,rfl,rfl,by kernel_rfl,by decide⟩⟩
theorem wQ:cI Try.prog 44 1 7 4:=⟨⟨_,_,Try.t4,Try.underlying44,rfl,rfl,rfl,by kernel_rfl,by decide⟩⟩
theorem sB:cI Try.prog 44 2 8 3:=⟨⟨_,_,Try.t3,Try.underlying44,rfl,rfl,rfl,by kernel_rfl,by decide⟩⟩
theorem sA:cI Try.prog 44 3 9 24:=⟨⟨_,_,Try.t24,Try.underlying44,rfl,rfl,rfl,by kernel_rfl,by decide⟩⟩
theorem goes16:cK Try.prog 16:=⟨Try.call16⟩
theorem goes18:cK Try.prog 18:=⟨Try.call18⟩
theorem goes21:cK Try.prog 21:=⟨Try.call21⟩
theorem goes23:cK Try.prog 23:=⟨Try.call23⟩
def nk (F:Nat) (x0:Int):Option Int :=
 Option.bind (if (decide (4294967296 ≤ x0)) = true then (some (x0 / 4294967296,32)) else (some (x0,0))) (eU fun x_1 n_2=>Option.bind (if (decide (65536 ≤ x_1)) = true then (some (x_1 / 65536,IntKind.i64.wrap (n_2 + 16))) else (some (x_1,n_2))) (eU fun x_3 n_4=>Option.bind (if (decide (256 ≤ x_3)) = true then (some (x_3 / 256,IntKind.i64.wrap (n_4 + 8))) else (some (x_3,n_4))) (eU fun x_5 n_6=>(aV ([0,1,2,2,3,3,3,3,4,4,4,4,4,4,4,4,5,5,5,5,5,5,5,5,5,5,5,5,5,5,5,5,6,6,6,6,6,6,6,6,6,6,6,6,6,6,6,6,6,6,6,6,6,6,6,6,6,6,6,6,6,6,6,6,7,7,7,7,7,7,7,7,7,7,7,7,7,7,7,7,7,7,7,7,7,7,7,7,7,7,7,7,7,7,7,7,7,7,7,7,7,7,7,7,7,7,7,7,7,7,7,7,7,7,7,7,7,7,7,7,7,7,7,7,7,7,7,7,8,8,8,8,8,8,8,8,8,8,8,8,8,8,8,8,8,8,8,8,8,8,8,8,8,8,8,8,8,8,8,8,8,8,8,8,8,8,8,8,8,8,8,8,8,8,8,8,8,8,8,8,8,8,8,8,8,8,8,8,8,8,8,8,8,8,8,8,8,8,8,8,8,8,8,8,8,8,8,8,8,8,8,8,8,8,8,8,8,8,8,8,8,8,8,8,8,8,8,8,8,8,8,8,8,8,8,8,8,8,8,8,8,8,8,8,8,8,8,8,8,8,8,8,8,8,8,8]:de) (IntKind.u8.wrap x_5)).bind fun x_7=>bu (IntKind.i64.wrap (n_6 + (IntKind.i64.wrap (x_7.toNat:Int)))) fun x_8=>some x_8)))
theorem qW {F:Nat} {x0:Int} {r:Int} (h:nk F x0 = some r):aA Try.prog [] 110 [] [.one (.int .u64 x0)] (Is [] (.b (.one (.i r)))):=by
 unfold nk at h
 refine aA.intro 25 Try.func110 Try.ntmps110 rfl (by simp) fun E=>?_
 show ab _ E ⟨25,[],[],[]⟩ _ ⟨[(0,.b (.one (.int .u64 x0)))],[]⟩ _
 refine ab.seq (ab.aa ?_)
 refine Oc oa (af.ak ⟨[(0,.b (.one (.int .u64 x0))),(2,I 0)],[]⟩ rfl ?_)
 obtain ⟨v1,h2,h⟩:=aP h
 refine ab.ca (v:=v1) (eU fun (x_1:Int) (n_2:Int)=>⟨[(0,.b (.one (.int .u64 x_1))),(2,I n_2)],[]⟩) (fun z=>z) ?_ ?_
 ·refine ab.seq (ab.aa ?_)
  refine Oc om (Oc (gk rfl rfl) ?_)
  refine af.ak ⟨[(0,_),(2,_),(4,B (decide (4294967296 ≤ x0)))],[]⟩ rfl (ab.ite h2 rfl (fun _ h2=>?_) (fun _ h2=>?_))
  ·refine ab.seq (ab.aa ?_)
   refine Oc om (Oc (q9 (m:=32) (by decide) rfl rfl rfl) (Oc oa ?_))
   refine af.ak ⟨[(0,.b (.one (.int .u64 (x0 / 4294967296))))],[]⟩ rfl (ab.aa (Oc oa (af.nil ?_)))
   exact Fin.join [0,2] [] (x0 / 4294967296,32) (Option.some.inj h2) rfl
  ·refine ab.skip ?_
   exact Fin.join [0,2] [] (x0,0) (Option.some.inj h2) rfl
 ·rintro ⟨x_1,n_2⟩ hv
  subst v1
  obtain ⟨v3,h4,h⟩:=aP h
  refine ab.ca (v:=v3) (eU fun (x_3:Int) (n_4:Int)=>⟨[(0,.b (.one (.int .u64 x_3))),(2,I n_4)],[]⟩) (fun z=>z) ?_ ?_
  ·refine ab.seq (ab.aa ?_)
   refine Oc om (Oc (gk rfl rfl) ?_)
   refine af.ak ⟨[(0,_),(2,_),(8,B (decide (65536 ≤ x_1)))],[]⟩ rfl (ab.ite h4 rfl (fun _ h4=>?_) (fun _ h4=>?_))
   ·refine ab.seq (ab.aa ?_)
    refine Oc om (Oc (q9 (m:=16) (by decide) rfl rfl rfl) (Oc oa ?_))
    refine af.ak ⟨[(0,.b (.one (.int .u64 (x_1 / 65536)))),(2,_)],[]⟩ rfl (ab.aa (Oc om (Oc (bh rfl rfl) (Oc oa ?_))))
    refine af.nil ?_
    exact Fin.join [0,2] [] (x_1 / 65536,IntKind.i64.wrap (n_2 + 16)) (Option.some.inj h4) rfl
   ·refine ab.skip ?_
    exact Fin.join [0,2] [] (x_1,n_2) (Option.some.inj h4) rfl
  ·rintro ⟨x_3,n_4⟩ hv
   subst v3
   obtain ⟨v5,h6,h⟩:=aP h
   refine ab.ca (v:=v5) (eU fun (x_5:Int) (n_6:Int)=>⟨[(0,.b (.one (.int .u64 x_5))),(2,I n_6)],[]⟩) (fun z=>z) ?_ ?_
   ·refine ab.seq (ab.aa ?_)
    refine Oc om (Oc (gk rfl rfl) ?_)
    refine af.ak ⟨[(0,_),(2,_),(14,B (decide (256 ≤ x_3)))],[]⟩ rfl (ab.ite h6 rfl (fun _ h6=>?_) (fun _ h6=>?_))
    ·refine ab.seq (ab.aa ?_)
     refine Oc om (Oc (q9 (m:=8) (by decide) rfl rfl rfl) (Oc oa ?_))
     refine af.ak ⟨[(0,.b (.one (.int .u64 (x_3 / 256)))),(2,_)],[]⟩ rfl (ab.aa (Oc om (Oc (bh rfl rfl) (Oc oa ?_))))
     refine af.nil ?_
     exact Fin.join [0,2] [] (x_3 / 256,IntKind.i64.wrap (n_4 + 8)) (Option.some.inj h6) rfl
    ·refine ab.skip ?_
     exact Fin.join [0,2] [] (x_3,n_4) (Option.some.inj h6) rfl
   ·rintro ⟨x_5,n_6⟩ hv
    subst v5
    refine ab.seq (ab.aa ?_)
    refine Oc om (Oc om (Oc (jy undi154 undi5 rfl) ?_))
    obtain ⟨x_7,e7,h⟩:=aP h
    refine Oc (tA und9 rfl rfl (aL e7) (xO e7)) (Oc (jy undi5 vT rfl) ?_)
    refine af.xD .i64 h rfl (bh rfl rfl) (fun x_8 h=>?_)
    refine Oc oa (af.ak ⟨[(2,I x_8)],[]⟩ rfl (ab.ret ?_))
    obtain rfl:=Option.some.inj h
    refine Fin.ai ⟨[(2,_)],[]⟩ rfl (Fin.aM [.one (.i x_8)] (.inl rfl) rfl (.cons (.tmp rfl) .nil) ⟨rfl,rfl⟩)
def po (F:Nat) (x0:Int):Option Int :=
 (nk F x0).bind fun x_1=>some x_1
theorem se {F:Nat} {x0:Int} {r:Int} (h:po F x0 = some r):aA Try.prog [] 99 [] [.one (.int .u64 x0)] (Is [] (.b (.one (.i r)))):=by
 unfold po at h
 refine aA.intro 8 Try.func99 Try.ntmps99 rfl (by simp) fun E=>?_
 show ab _ E ⟨8,[],[],[]⟩ _ ⟨[(0,.b (.one (.int .u64 x0)))],[]⟩ _
 refine ab.seq (ab.aa ?_)
 refine Oc oa (af.ak ⟨[(0,.b (.one (.int .u64 x0)))],[]⟩ rfl (ab.seq (ab.condFc (ab.skip (Fin.ai ⟨[(0,_)],[]⟩ rfl ?_)))))
 refine Fin.then (ab.seq (ab.aa ?_))
 refine Oc om ?_
 obtain ⟨x_1,e1,h⟩:=aP h
 refine Oc (az (qW e1) goes110 rfl rfl) (Oc oa ?_)
 refine af.ak ⟨[(2,I x_1)],[]⟩ rfl (ab.ret ?_)
 obtain rfl:=Option.some.inj h
 refine Fin.ai ⟨[(2,_)],[]⟩ rfl (Fin.aM [.one (.i x_1)] (.inl rfl) rfl (.cons (.tmp rfl) .nil) ⟨rfl,rfl⟩)
def gz (F:Nat):Option Unit :=
 Option.bind (iter F (fun _=>some (.inr ())) ()) (fun _=>some ())
theorem lA {F:Nat} {r:Unit} (h:gz F = some r):aA Try.prog [] 100 [] [.one (.nil),.one (.i 0),.one (.i 0)] (Is [] (.gR [])):=by
 unfold gz at h
 refine aA.intro 49 Try.func100 Try.ntmps100 rfl (by simp) fun E=>?_
 show ab _ E ⟨49,[],[],[]⟩ _ ⟨[(0,.b (.one (.nil))),(1,I 0),(2,I 0)],[]⟩ _
 refine ab.seq (ab.aa ?_)
 refine Oc om (Oc (bh rfl rfl) (Oc oa ?_))
 refine af.ak ⟨[(0,.b (.one (.nil))),(1,I 0),(2,I 0),(6,I 1)],[]⟩ rfl (ab.block ?_)
 obtain ⟨v1,h2,h⟩:=aP h
 refine ab.bZ h2 (fun (_:Unit)=>⟨[(0,.b (.one (.nil))),(1,I 0),(2,I 0),(6,I 1)],[]⟩) [0,1,2,6] [] rfl ?_
 rintro _ o3 h4 hy5
 refine ab.seq (ab.seq (ab.aa ?_))
 refine Oc om (Oc om (Oc (aY rfl rfl) ?_))
 refine af.ak ⟨[(0,_),(1,_),(2,_),(6,_),(12,B false)],[]⟩ rfl (ab.xE rfl (ab.exit (Fin.aq ?_)))
 obtain rfl:=hy5 _ (Option.some.inj h4).symm
 refine Fin.aq (Fin.aE ?_)
 obtain rfl:=Option.some.inj h
 refine Fin.ai ⟨[],[]⟩ rfl (Fin.aM [] (.inr rfl) rfl (.nil) ⟨rfl,rfl⟩)
def fV (F:Nat):Nat → Int → Option Unit
 | 0,_=>none
 | n + 1,limit0=>Option.bind (iter F (fun _=>(gz F).bind fun u_1=>some (.inr ())) ()) (fun y=>some y)
def km (F:Nat) (limit0:Int):Option Unit:=fV F F limit0
theorem l' {F:Nat}:∀ (n:Nat) {limit0:Int} {r:Unit} (h:fV F n limit0 = some r),aA Try.prog [] 98 [] [.one (.nil),.one (.i 0),.one (.i 0),.one (.i limit0)] (Is [] (.gR [])):=by
 intro n
 induction n with
 | zero=>intro limit0 r h; simp [fV] at h
 | succ n ih=>
 intro limit0 r h
 unfold fV at h
 refine aA.intro 134 Try.func98 Try.ntmps98 rfl (by simp) fun E=>?_
 show ab _ E ⟨134,[],[],[]⟩ _ ⟨[(0,.b (.one (.nil))),(1,I 0),(2,I 0),(3,I limit0)],[]⟩ _
 refine ab.seq (ab.aa ?_)
 refine Oc oa (af.ak ⟨[(0,.b (.one (.nil))),(1,I 0),(2,I 0),(3,I limit0),(8,B true)],[]⟩ rfl (ab.seq (ab.aa ?_)))
 refine Oc oa (af.ak ⟨[(0,_),(1,_),(2,_),(3,_),(8,_),(9,B true)],[]⟩ rfl (ab.block ?_))
 obtain ⟨v1,h2,h⟩:=aP h
 refine ab.bZ h2 (fun (_:Unit)=>⟨[(0,.b (.one (.nil))),(1,I 0),(2,I 0),(3,I limit0),(8,B true),(9,B true)],[]⟩) [0,1,2,3,8,9] [] rfl ?_
 rintro _ o3 h4 hy5
 refine ab.block (ab.seq (ab.aa ?_))
 refine Oc om (Oc om (Oc (op_sub rfl rfl) (Oc oa ?_)))
 refine af.ak ⟨[(0,_),(1,_),(2,_),(3,_),(8,_),(9,_),(10,I 0)],[]⟩ rfl (ab.seq (ab.seq (ab.aa ?_)))
 refine Oc om (Oc (uO rfl rfl) ?_)
 refine af.ak ⟨[(0,_),(1,_),(2,_),(3,_),(8,_),(9,_),(10,_),(23,B true)],[]⟩ rfl (ab.tL rfl (ab.seq (ab.aa ?_)))
 refine Oc om (Oc om (Oc om ?_))
 obtain ⟨u_1,e6,h4⟩:=aP h4
 refine Oc (az (lA e6) goes100 rfl rfl) (af.ak ⟨[],[]⟩ rfl (ab.ret (Fin.aw (Fin.aJ ?_))))
 obtain rfl:=hy5 _ (Option.some.inj h4).symm
 refine Fin.aw (Fin.aJ ?_)
 obtain rfl:=Option.some.inj h
 refine Fin.ai ⟨[],[]⟩ rfl (Fin.aM [] (.inl rfl) rfl (.nil) ⟨rfl,rfl⟩)
theorem mQ {F:Nat} {limit0:Int} {r:Unit} (h:km F limit0 = some r):aA Try.prog [] 98 [] [.one (.nil),.one (.i 0),.one (.i 0),.one (.i limit0)] (Is [] (.gR [])):=l' F h
def lV (F:Nat):Option Unit :=
 (po F (IntKind.u64.wrap 0)).bind fun x_1=>(km F x_1).bind fun u_2=>some ()
theorem nZ {F:Nat} {r:Unit} (h:lV F = some r):aA Try.prog [] 91 [] [.one (.nil)] (Is [] (.gR [])):=by
 unfold lV at h
 refine aA.intro 11 Try.func91 Try.ntmps91 rfl (by simp) fun E=>?_
 show ab _ E ⟨11,[],[],[]⟩ _ ⟨[(0,.b (.one (.nil)))],[]⟩ _
 refine ab.seq (ab.aa ?_)
 refine Oc om (Oc (vC bR rfl) (Oc oa ?_))
 refine af.ak ⟨[(0,.b (.one (.nil))),(2,I 0)],[]⟩ rfl (ab.aa (Oc om (Oc om (Oc om (Oc (jy vT ti rfl) ?_)))))
 obtain ⟨x_1,e1,h⟩:=aP h
 refine Oc (az (se e1) goes99 rfl rfl) ?_
 obtain ⟨u_2,e2,h⟩:=aP h
 refine Oc (az (mQ e2) goes98 rfl rfl) (af.nil ?_)
 obtain rfl:=Option.some.inj h
 refine Fin.ai ⟨[],[]⟩ rfl (Fin.aM [] (.inr rfl) rfl (.nil) ⟨rfl,rfl⟩)
theorem qA:aA Try.prog [] 91 [] [.one .nil] (Is [] (.gR [])):=nZ (F:=3) (r:=()) (by rfl)
def dU (F:Nat) (zs:List Int):Option (List Int):=m0 zs
theorem mJ {F:Nat} {zs r:List Int} (h:dU F zs = some r):aA Try.prog [] 91 [(1,.jI 3 1 (zs.map eI))] [.row 1] (Is [(1,.jI 3 1 (r.map eI))] (.gR [])):=uy Try.lays189 qA h
def fo (F:Nat) (zs:List Int):Option (List Int):=oz zs
theorem oE {F:Nat} {zs r:List Int} (h:fo F zs = some r):aA Try.prog [] 92 [(1,.row 3 1 (zs.map eI))] [.row 1] (Is [(1,.row 3 1 (r.map eI))] (.b (.row 1))):=rW Try.yK h
def eu (F:Nat) (sets0:List (List Int)):Option Bool :=
 Option.bind (iter F (fun i_1=>if (decide (i_1 < (sets0.length:Int))) = true then ((aV sets0 i_1).bind fun x_2=>if (decide (8 < (x_2.length:Int))) = true then (some (.inr (.inr false))) else (some (.inl (IntKind.i64.wrap (i_1 + 1))))) else (some (.inr (.inl ())))) 0) (bG (fun _=>some (decide ((sets0.length:Int) ≤ 30))) (fun y=>some y))
theorem jD {F:Nat} {sets0:List (List Int)} {r:Bool} (h:eu F sets0 = some r):aA Try.prog [] 9 [] [.one (.sl 1 (sets0.map (eL 1 eI)))] (Is [] (.b (.one (.bool r)))):=by
 unfold eu at h
 refine aA.intro 19 Try.func9 Try.ntmps9 rfl (by simp) fun E=>?_
 show ab _ E ⟨19,[],[],[]⟩ _ ⟨[(0,.b (.one (.sl 1 (sets0.map (eL 1 eI)))))],[]⟩ _
 refine ab.seq (ab.aa ?_)
 refine Oc oa (af.ak ⟨[(0,.b (.one (.sl 1 (sets0.map (eL 1 eI)))))],[]⟩ rfl ?_)
 obtain ⟨v1,h2,h⟩:=aP h
 refine ab.ca (v:=v1) (fun (_:Unit)=>⟨[(0,.b (.one (.sl 1 (sets0.map (eL 1 eI)))))],[]⟩) (fun z=>.inl z) ?_ ?_
 ·refine ab.seq (ab.aa ?_)
  refine Oc oa (af.ak ⟨[(0,_),(3,I 0)],[]⟩ rfl (ab.block (ab.bZ h2 (fun (i_1:Int)=>⟨[(0,.b (.one (.sl 1 (sets0.map (eL 1 eI))))),(3,I i_1)],[]⟩) [0,3] [] rfl ?_)))
  rintro i_1 o3 h4 hy5
  refine ab.seq (ab.seq (ab.aa ?_))
  refine Oc om (Oc om (Oc (av jr rfl (List.length_map _)) (Oc (aY rfl rfl) ?_)))
  refine af.ak ⟨[(0,_),(3,_),(7,B (decide (i_1 < (sets0.length:Int))))],[]⟩ rfl (ab.ite h4 rfl (fun _ h4=>?_) (fun _ h4=>?_))
  ·refine ab.skip (Fin.ai ⟨[(0,_),(3,_)],[]⟩ rfl (Fin.then (ab.seq (ab.block (ab.seq (ab.aa ?_))))))
   refine Oc om (Oc om ?_)
   obtain ⟨x_2,e6,h4⟩:=aP h4
   refine Oc (an bY (aL e6) (aB (e:=(eL 1 eI)) e6) rfl rfl) (Oc (au aN rfl rfl) (Oc (av bR rfl (List.length_map _)) (Oc (gZ rfl rfl) ?_)))
   refine af.ak ⟨[(0,_),(3,_),(15,B (decide (8 < (x_2.length:Int))))],[]⟩ rfl (ab.ite h4 rfl (fun _ h4=>?_) (fun _ h4=>?_))
   ·refine ab.seq (ab.aa ?_)
    refine Oc oa (af.ak ⟨[(2,B false)],[]⟩ rfl (ab.ret (Fin.aJ (Fin.aw ?_))))
    obtain rfl:=hy5 _ (Option.some.inj h4).symm
    refine Fin.aw (Fin.aJ (Fin.aw ?_))
    obtain rfl:=Option.some.inj h
    refine Fin.ai ⟨[(2,_)],[]⟩ rfl (Fin.aM [.one (.bool false)] (.inl rfl) rfl (.cons (.tmp rfl) .nil) ⟨rfl,rfl⟩)
   ·refine ab.skip (Fin.ar (Fin.ai ⟨[(0,_),(3,_)],[]⟩ rfl (Fin.then (ab.aa ?_))))
    refine Oc om (Oc (bh rfl rfl) (Oc oa ?_))
    refine af.nil ?_
    exact Fin.bp [0,3] [] (IntKind.i64.wrap (i_1 + 1)) (Option.some.inj h4) rfl
  ·refine ab.exit (Fin.aq ?_)
   obtain rfl:=hy5 _ (Option.some.inj h4).symm
   refine Fin.aq (Fin.aE ?_)
   exact Fin.join [0] [] () rfl rfl
 ·rintro _ hv
  subst v1
  refine ab.seq (ab.aa ?_)
  refine Oc om (Oc (av jr rfl (List.length_map _)) (Oc (uO rfl rfl) (Oc oa ?_)))
  refine af.ak ⟨[(2,B (decide ((sets0.length:Int) ≤ 30)))],[]⟩ rfl (ab.ret ?_)
  obtain rfl:=Option.some.inj h
  refine Fin.ai ⟨[(2,_)],[]⟩ rfl (Fin.aM [.one (.bool (decide ((sets0.length:Int) ≤ 30)))] (.inl rfl) rfl (.cons (.tmp rfl) .nil) ⟨rfl,rfl⟩)
def eY (F:Nat) (i0:Int) (v0c:List Int) (v1c:Int):Option Bool :=
 (aV v0c i0).bind fun x_1=>some (decide (v1c < x_1))
theorem n7 {F:Nat} {i0:Int} {v0c:List Int} {v1c:Int} {r:Bool} (h:eY F i0 v0c v1c = some r):aA Try.prog [] 77 [(1,.box 22 [.sl 1 (v0c.map eI)]),(2,.box 3 [.i v1c])] [.one (.i i0),.ptr 1 0,.ptr 2 0] (Is [(1,.box 22 [.sl 1 (v0c.map eI)]),(2,.box 3 [.i v1c])] (.b (.one (.bool r)))):=by
 unfold eY at h
 refine aA.intro 11 Try.func77 Try.ntmps77 rfl (by simp) fun E=>?_
 show ab _ E ⟨11,[1,2],[1,2],[]⟩ _ ⟨[(0,I i0),(1,Pt 1 0),(2,Pt 2 0)],[(1,.box 22 [.sl 1 (v0c.map eI)]),(2,.box 3 [.i v1c])]⟩ _
 refine ab.seq (ab.aa ?_)
 refine Oc oa (af.ak ⟨[(0,I i0),(1,Pt 1 0),(2,Pt 2 0)],[(1,.box 22 [.sl 1 (v0c.map eI)]),(2,.box 3 [.i v1c])]⟩ rfl (ab.seq ?_))
 obtain ⟨x_1,e1,h⟩:=aP h
 refine ab.eX mixed 7 [.b (.one (.sl 1 (v0c.map eI))),I i0,.b (.cx [.i x_1]),I x_1,I v1c,B (decide (v1c < x_1)),B (decide (v1c < x_1))] [4] [1,2] (s':=⟨[(4,B (decide (v1c < x_1)))],[(1,_),(2,_)]⟩) rfl ⟨fun _=>.p (ag aN rfl rfl rfl),fun _=>.p om,fun _=>.p (an aQ (aL e1) (aB (e:=eI) e1) rfl rfl),fun _=>.p (au aD rfl rfl),fun _=>.p (ag aD rfl rfl rfl),fun _=>.p (gZ rfl rfl),fun _=>.p oa,trivial⟩ rfl rfl (ab.ret ?_)
 obtain rfl:=Option.some.inj h
 refine Fin.ai ⟨[(4,_)],[(1,_),(2,_)]⟩ rfl ?_
 exact Fin.result [.one (.bool (decide (v1c < x_1)))] (.inl rfl) rfl (.cons (.tmp rfl) .nil) ⟨rfl,rfl⟩
def gP (F:Nat) (n0:Int) (f0v0:List Int) (f0v1:Int):Option Int :=
 Option.bind (iter F (eU fun i_2 j_3=>if (decide (i_2 < j_3)) = true then (bu (IntKind.u64.wrap (IntKind.i64.wrap (i_2 + j_3))) fun x_5=>(eY F (IntKind.i64.wrap (x_5 / 2)) f0v0 f0v1).bind fun x_6=>if (!x_6) = true then (bu (IntKind.i64.wrap ((IntKind.i64.wrap (x_5 / 2)) + 1)) fun x_7=>some (.inl (x_7,j_3))) else (some (.inl (i_2,IntKind.i64.wrap (x_5 / 2))))) else (some (.inr i_2))) (0,n0)) (fun i_1=>some i_1)
theorem qy {F:Nat} {n0:Int} {f0v0:List Int} {f0v1:Int} {r:Int} (h:gP F n0 f0v0 f0v1 = some r):aA Try.prog [] 76 [(1,.box 22 [.sl 1 (f0v0.map eI)]),(2,.box 3 [.i f0v1])] [.one (.i n0),.iK 77 [] [.ptr 1 0,.ptr 2 0]] (Is [(1,.box 22 [.sl 1 (f0v0.map eI)]),(2,.box 3 [.i f0v1])] (.b (.one (.i r)))):=by
 unfold gP at h
 refine aA.intro 26 Try.func76 Try.ntmps76 rfl (by simp) fun E=>?_
 show ab _ E ⟨26,[1,2],[1,2],[]⟩ _ ⟨[(0,I n0),(1,.b (.iK 77 [] [.ptr 1 0,.ptr 2 0]))],[(1,.box 22 [.sl 1 (f0v0.map eI)]),(2,.box 3 [.i f0v1])]⟩ _
 refine ab.seq (ab.aa ?_)
 refine Oc oa (af.ak ⟨[(0,I n0),(1,.b (.iK 77 [] [.ptr 1 0,.ptr 2 0]))],[(1,.box 22 [.sl 1 (f0v0.map eI)]),(2,.box 3 [.i f0v1])]⟩ rfl (ab.seq (ab.aa ?_)))
 refine Oc om (Oc oa (Oc oa ?_))
 refine af.ak ⟨[(1,_),(5,I 0),(6,I n0)],[(1,_),(2,_)]⟩ rfl ?_
 obtain ⟨v1,h2,h⟩:=aP h
 refine ab.ca (v:=v1) (fun (i_1:Int)=>⟨[(5,I i_1)],[(1,.box 22 [.sl 1 (f0v0.map eI)]),(2,.box 3 [.i f0v1])]⟩) (fun z=>z) ?_ ?_
 ·refine ab.block (ab.bZ h2 (eU fun (i_2:Int) (j_3:Int)=>⟨[(1,.b (.iK 77 [] [.ptr 1 0,.ptr 2 0])),(5,I i_2),(6,I j_3)],[(1,.box 22 [.sl 1 (f0v0.map eI)]),(2,.box 3 [.i f0v1])]⟩) [1,5,6] [1,2] rfl ?_)
  rintro ⟨i_2,j_3⟩ o3 h4 hy5
  refine ab.seq (ab.seq (ab.aa ?_))
  refine Oc om (Oc om (Oc (aY rfl rfl) ?_))
  refine af.ak ⟨[(1,_),(5,_),(6,_),(11,B (decide (i_2 < j_3)))],[(1,_),(2,_)]⟩ rfl (ab.ite h4 rfl (fun _ h4=>?_) (fun _ h4=>?_))
  ·refine ab.skip (Fin.ai ⟨[(1,_),(5,_),(6,_)],[(1,_),(2,_)]⟩ rfl (Fin.then (ab.block (ab.seq (ab.aa ?_)))))
   refine Oc om (Oc om (Oc (bh rfl rfl) ?_))
   refine af.xD .u64 h4 rfl (jy vT ti rfl) (fun x_5 h4=>?_)
   refine Oc (q9 (m:=1) (by decide) rfl rfl rfl) (Oc (jy ti vT rfl) (Oc oa ?_))
   refine af.ak ⟨[(1,_),(5,_),(6,_),(7,I (IntKind.i64.wrap (x_5 / 2)))],[(1,_),(2,_)]⟩ rfl (ab.seq (ab.aa ?_))
   refine Oc om (Oc om ?_)
   obtain ⟨x_6,e6,h4⟩:=aP h4
   refine Oc (kg (own_a:=[(1,_),(2,_)]) (n7 e6) goes77 rfl rfl rfl ⟨rfl,rfl,trivial⟩ rfl rfl) (Oc (cL rfl) ?_)
   refine af.ak ⟨[(1,_),(5,_),(6,_),(7,_),(21,B (!x_6))],[(1,_),(2,_)]⟩ rfl (ab.ite h4 rfl (fun _ h4=>?_) (fun _ h4=>?_))
   ·refine ab.aa (Oc om (af.xD .i64 h4 rfl (bh rfl rfl) (fun x_7 h4=>?_)))
    refine Oc oa (af.nil (Fin.ar ?_))
    exact Fin.bp [1,5,6] [1,2] (x_7,j_3) (Option.some.inj h4) rfl
   ·refine ab.aa (Oc om (Oc oa ?_))
    refine af.nil (Fin.ar ?_)
    exact Fin.bp [1,5,6] [1,2] (i_2,IntKind.i64.wrap (x_5 / 2)) (Option.some.inj h4) rfl
  ·refine ab.exit (Fin.aq ?_)
   obtain rfl:=hy5 _ (Option.some.inj h4).symm
   refine Fin.aq (Fin.aE ?_)
   exact Fin.join [5] [1,2] i_2 rfl rfl
 ·rintro i_1 hv
  subst v1
  refine ab.seq (ab.aa ?_)
  refine Oc om (Oc oa ?_)
  refine af.ak ⟨[(4,I i_1)],[(1,_),(2,_)]⟩ rfl (ab.ret ?_)
  obtain rfl:=Option.some.inj h
  refine Fin.ai ⟨[(4,_)],[(1,_),(2,_)]⟩ rfl ?_
  exact Fin.result [.one (.i i_1)] (.inl rfl) rfl (.cons (.tmp rfl) .nil) ⟨rfl,rfl⟩
def fb (F:Nat) (x0:Int) (v0c:List Int):Option Int :=
 (gP F (v0c.length:Int) v0c x0).bind fun x_1=>some x_1
theorem lu {F:Nat} {x0:Int} {v0c:List Int} {r:Int} (h:fb F x0 v0c = some r):aA Try.prog [] 75 [(1,.box 22 [.sl 1 (v0c.map eI)])] [.one (.i x0),.ptr 1 0] (Is [(1,.box 22 [.sl 1 (v0c.map eI)])] (.b (.one (.i r)))):=by
 unfold fb at h
 refine aA.intro 8 Try.func75 Try.ntmps75 rfl (by simp) fun E=>?_
 show ab _ E ⟨8,[1],[1],[]⟩ _ ⟨[(0,I x0),(1,Pt 1 0)],[(1,.box 22 [.sl 1 (v0c.map eI)])]⟩ _
 refine ab.seq (ab.aa ?_)
 refine Oc (tn (k:=101) rfl rfl) (Oc oa ?_)
 refine af.ak ⟨[(1,Pt 1 0),(2,Pt 101 0)],[(1,.box 22 [.sl 1 (v0c.map eI)]),(101,.box 3 [.i x0])]⟩ rfl (ab.seq (ab.aa ?_))
 refine Oc (ag aN rfl rfl rfl) (Oc (av bR rfl (List.length_map _)) (Oc (hZ rfl rfl) ?_))
 obtain ⟨x_1,e1,h⟩:=aP h
 refine Oc (bL (own_a:=[(1,_),(101,_)]) ((qy e1).sw 2 101) goes76 rfl ⟨rfl,rfl,trivial⟩ rfl rfl) (Oc oa ?_)
 refine af.ak ⟨[(3,I x_1)],[(1,_)]⟩ rfl (ab.ret ?_)
 obtain rfl:=Option.some.inj h
 refine Fin.ai ⟨[(3,_)],[(1,_)]⟩ rfl ?_
 exact Fin.result [.one (.i x_1)] (.inl rfl) rfl (.cons (.tmp rfl) .nil) ⟨rfl,rfl⟩
def gQ (F:Nat) (borders0:List Int) (lo0:Int) (hi0:Int):Option (Int × Int) :=
 (fb F lo0 borders0).bind fun x_1=>(fb F hi0 borders0).bind fun x_2=>some (x_1,x_2)
theorem qD {F:Nat} {borders0:List Int} {lo0:Int} {hi0:Int} {r:Int × Int} (h:gQ F borders0 lo0 hi0 = some r):aA Try.prog [] 36 [] [.one (.sl 1 (borders0.map eI)),.one (.i lo0),.one (.i hi0)] (Is [] (.gR [.one (.i r.1),.one (.i r.2)])):=by
 unfold gQ at h
 refine aA.intro 16 Try.func36 Try.ntmps36 rfl (by simp) fun E=>?_
 show ab _ E ⟨16,[],[],[]⟩ _ ⟨[(0,.b (.one (.sl 1 (borders0.map eI)))),(1,I lo0),(2,I hi0)],[]⟩ _
 refine ab.seq (ab.aa ?_)
 refine Oc (tn (k:=101) rfl rfl) (Oc oa (Oc oa ?_))
 refine af.ak ⟨[(1,I lo0),(2,I hi0),(3,Pt 101 0)],[(101,.box 22 [.sl 1 (borders0.map eI)])]⟩ rfl (ab.seq (ab.aa ?_))
 refine Oc (hZ rfl rfl) (Oc oa ?_)
 refine af.ak ⟨[(1,_),(2,_),(8,.b (.iK 75 [] [.ptr 101 0]))],[(101,_)]⟩ rfl (ab.seq (ab.aa ?_))
 refine Oc om (Oc om ?_)
 obtain ⟨x_1,e1,h⟩:=aP h
 refine Oc (kg (own_a:=[(101,_)]) ((lu e1).sw 1 101) xT rfl rfl rfl ⟨rfl,trivial⟩ rfl rfl) (Oc om (Oc om ?_))
 refine af.ai ⟨[(12,I x_1),(13,.b (.iK 75 [] [.ptr 101 0])),(14,I hi0)],[(101,_)]⟩ rfl ?_
 obtain ⟨x_2,e2,h⟩:=aP h
 refine Oc (kg (own_a:=[(101,_)]) ((lu e2).sw 1 101) xT rfl rfl rfl ⟨rfl,trivial⟩ rfl rfl) (Oc oa (Oc oa ?_))
 refine af.ak ⟨[(6,I x_1),(7,I x_2)],[]⟩ rfl (ab.ret ?_)
 obtain rfl:=Option.some.inj h
 refine Fin.ai ⟨[(6,_),(7,_)],[]⟩ rfl (Fin.aM [.one (.i x_1),.one (.i x_2)] (.inl rfl) rfl (.cons (.tmp rfl) (.cons (.tmp rfl) .nil)) ⟨rfl,rfl⟩)
def cU (F:Nat) (home0:List Int) (lists0:List (List Int)):Option Bool :=
 Option.bind (iter F (fun x_1=>if (decide (x_1 < (lists0.length:Int))) = true then (Option.bind ((aV lists0 x_1).bind fun x_2=>Option.bind (iter F (fun x_3=>if (decide (x_3 < (x_2.length:Int))) = true then ((aV x_2 x_3).bind fun x_4=>(aK (!((decide (x_4 < 0)) || (decide ((home0.length:Int) ≤ x_4)))) (aV home0 x_4)).bind fun x_5=>bu (((decide (x_4 < 0)) || (decide ((home0.length:Int) ≤ x_4))) || (decide (x_5 < 0))) fun x_6=>if x_6 = true then (some (.inr (.inr false))) else (some (.inl (IntKind.i64.wrap (x_3 + 1))))) else (some (.inr (.inl ())))) 0) (bG (fun _=>some (.inl ())) (fun y=>some (.inr y)))) (bG (fun _=>some (.inl (IntKind.i64.wrap (x_1 + 1)))) (fun y=>some (.inr (.inr y))))) else (some (.inr (.inl ())))) 0) (bG (fun _=>some true) (fun y=>some y))
theorem gg {F:Nat} {home0:List Int} {lists0:List (List Int)} {r:Bool} (h:cU F home0 lists0 = some r):aA Try.prog [] 42 [] [.one (.sl 1 (home0.map eI)),.one (.sl 1 (lists0.map (eL 1 eI)))] (Is [] (.b (.one (.bool r)))):=by
 unfold cU at h
 refine aA.intro 38 Try.func42 Try.ntmps42 rfl (by simp) fun E=>?_
 show ab _ E ⟨38,[],[],[]⟩ _ ⟨[(0,.b (.one (.sl 1 (home0.map eI)))),(1,.b (.one (.sl 1 (lists0.map (eL 1 eI)))))],[]⟩ _
 refine ab.seq (ab.aa ?_)
 refine Oc oa (af.ak ⟨[(0,.b (.one (.sl 1 (home0.map eI)))),(1,.b (.one (.sl 1 (lists0.map (eL 1 eI)))))],[]⟩ rfl ?_)
 obtain ⟨v1,h2,h⟩:=aP h
 refine ab.ca (v:=v1) (fun (_:Unit)=>⟨[],[]⟩) (fun z=>.inl z) ?_ ?_
 ·refine ab.seq (ab.aa ?_)
  refine Oc om (Oc (av jr rfl (List.length_map _)) (Oc om ?_))
  refine af.ak ⟨[(0,_),(9,.b (.one (.sl 1 (lists0.map (eL 1 eI))))),(10,I (lists0.length:Int)),(11,I 0)],[]⟩ rfl (ab.block (ab.bZ h2 (fun (x_1:Int)=>⟨[(0,.b (.one (.sl 1 (home0.map eI)))),(9,.b (.one (.sl 1 (lists0.map (eL 1 eI))))),(10,I (lists0.length:Int)),(11,I x_1)],[]⟩) [0,9,10,11] [] rfl ?_))
  rintro x_1 o3 h4 hy5
  refine ab.seq (ab.aa ?_)
  refine Oc (aY rfl rfl) (af.ak ⟨[(0,_),(9,_),(10,_),(11,_),(12,B (decide (x_1 < (lists0.length:Int))))],[]⟩ rfl (ab.seq (ab.ite h4 rfl (fun _ h4=>?_) (fun _ h4=>?_))))
  ·refine ab.skip (Fin.ai ⟨[(0,_),(9,_),(10,_),(11,_)],[]⟩ rfl (Fin.then ?_))
   obtain ⟨v6,h7,h4⟩:=aP h4
   refine ab.ca (v:=v6) (fun (_:Unit)=>⟨[(0,.b (.one (.sl 1 (home0.map eI)))),(9,.b (.one (.sl 1 (lists0.map (eL 1 eI))))),(10,I (lists0.length:Int)),(11,I x_1)],[]⟩) (fun z=>.inl z) ?_ ?_
   ·refine ab.block (ab.seq (ab.aa ?_))
    obtain ⟨x_2,e8,h7⟩:=aP h7
    refine Oc (an bY (aL e8) (aB (e:=(eL 1 eI)) e8) rfl rfl) (Oc (au aN rfl rfl) (Oc oa ?_))
    refine af.ak ⟨[(0,_),(6,.b (.one (.sl 1 (x_2.map eI)))),(9,_),(10,_),(11,_)],[]⟩ rfl (ab.seq (ab.aa ?_))
    refine Oc om (Oc (av bR rfl (List.length_map _)) (Oc om ?_))
    refine af.ak ⟨[(0,_),(9,_),(10,_),(11,_),(15,.b (.one (.sl 1 (x_2.map eI)))),(16,I (x_2.length:Int)),(17,I 0)],[]⟩ rfl (ab.block ?_)
    obtain ⟨v9,h10,h7⟩:=aP h7
    refine ab.bZ h10 (fun (x_3:Int)=>⟨[(0,.b (.one (.sl 1 (home0.map eI)))),(9,.b (.one (.sl 1 (lists0.map (eL 1 eI))))),(10,I (lists0.length:Int)),(11,I x_1),(15,.b (.one (.sl 1 (x_2.map eI)))),(16,I (x_2.length:Int)),(17,I x_3)],[]⟩) [0,9,10,11,15,16,17] [] rfl ?_
    rintro x_3 o11 h12 hy13
    refine ab.seq (ab.aa ?_)
    refine Oc (aY rfl rfl) (af.ak ⟨[(0,_),(9,_),(10,_),(11,_),(15,_),(16,_),(17,_),(18,B (decide (x_3 < (x_2.length:Int))))],[]⟩ rfl (ab.seq (ab.ite h12 rfl (fun _ h12=>?_) (fun _ h12=>?_))))
    ·refine ab.skip (Fin.ai ⟨[(0,_),(9,_),(10,_),(11,_),(15,_),(16,_),(17,_)],[]⟩ rfl (Fin.then (ab.seq (ab.block (ab.seq (ab.aa ?_))))))
     obtain ⟨x_4,e14,h12⟩:=aP h12
     refine Oc (an aQ (aL e14) (aB (e:=eI) e14) rfl rfl) (Oc (au aD rfl rfl) (Oc oa ?_))
     refine af.ak ⟨[(0,_),(8,I x_4),(9,_),(10,_),(11,_),(15,_),(16,_),(17,_)],[]⟩ rfl (ab.seq (ab.aa ?_))
     refine Oc om (Oc (aY rfl rfl) (Oc om ?_))
     refine bF (!(decide (x_4 < 0))) [] (fun g15=>trivial) (fun g15=>om) (bF (!(decide (x_4 < 0))) [] (fun g16=>by exact trivial) (fun g16=>om) (bF (!(decide (x_4 < 0))) [25] (fun g17=>by exact ⟨g17,trivial⟩) (fun g17=>av bR rfl (List.length_map _)) (af.ai ⟨[(0,_),(8,_),(9,_),(10,_),(11,_),(15,_),(16,_),(17,_),(23,B (decide (x_4 < 0))),(24,.opt (!(decide (x_4 < 0))) (.one (.i x_4))),(26,.opt (!(decide (x_4 < 0))) (.one (.i (home0.length:Int))))],[]⟩ rfl (bF (!(decide (x_4 < 0))) [24,26] (fun g18=>by exact ⟨g18,g18,trivial⟩) (fun g18=>gk rfl rfl) (Oc (aF (fun e=>by first | (rw [e]; rfl) | (simp only at e; rw [e]; rfl)) rfl rfl rfl rfl) (Oc om ?_))))))
     refine bF (!((decide (x_4 < 0)) || (decide ((home0.length:Int) ≤ x_4)))) [] (fun g19=>trivial) (fun g19=>om) (bF (!((decide (x_4 < 0)) || (decide ((home0.length:Int) ≤ x_4)))) [] (fun g20=>by exact trivial) (fun g20=>om) ?_)
     obtain ⟨x_5,e22,h12⟩:=aP h12
     refine bF (!((decide (x_4 < 0)) || (decide ((home0.length:Int) ≤ x_4)))) [30,31] (fun g21=>⟨g21,g21,trivial⟩) (fun g21=>an aQ (aL (gc e22 g21)) (aB (e:=eI) (gc e22 g21)) rfl rfl) (bF (!((decide (x_4 < 0)) || (decide ((home0.length:Int) ≤ x_4)))) [32] (fun g23=>⟨g23,trivial⟩) (fun g23=>au aD rfl rfl) (bF (!((decide (x_4 < 0)) || (decide ((home0.length:Int) ≤ x_4)))) [33] (fun g24=>⟨g24,trivial⟩) (fun g24=>aY rfl rfl) (af.fQ h12 rfl (aF (fun e=>by first | (rw [e]; rfl) | (simp only at e; rw [e]; rfl)) rfl rfl rfl rfl) (fun x_6 h12=>?_))))
     refine af.ak ⟨[(0,_),(9,_),(10,_),(11,_),(15,_),(16,_),(17,_),(35,B x_6)],[]⟩ rfl (ab.ite h12 rfl (fun _ h12=>?_) (fun _ h12=>?_))
     ·refine ab.seq (ab.aa ?_)
      refine Oc oa (af.ak ⟨[(4,B false)],[]⟩ rfl (ab.ret (Fin.aJ (Fin.aw ?_))))
      obtain rfl:=hy13 _ (Option.some.inj h12).symm
      refine Fin.aw (Fin.aJ (Fin.aJ ?_))
      obtain rfl:=Option.some.inj h7
      refine Fin.aw ?_
      obtain rfl:=hy5 _ (Option.some.inj h4).symm
      refine Fin.aw (Fin.aJ (Fin.aw ?_))
      obtain rfl:=Option.some.inj h
      refine Fin.ai ⟨[(4,_)],[]⟩ rfl (Fin.aM [.one (.bool false)] (.inl rfl) rfl (.cons (.tmp rfl) .nil) ⟨rfl,rfl⟩)
     ·refine ab.skip (Fin.ar (Fin.ai ⟨[(0,_),(9,_),(10,_),(11,_),(15,_),(16,_),(17,_)],[]⟩ rfl (Fin.then (ab.aa ?_))))
      refine Oc (bh rfl rfl) (Oc om ?_)
      refine af.nil ?_
      exact Fin.bp [0,9,10,11,15,16,17] [] (IntKind.i64.wrap (x_3 + 1)) (Option.some.inj h12) rfl
    ·refine ab.exit (Fin.aq ?_)
     obtain rfl:=hy13 _ (Option.some.inj h12).symm
     refine Fin.aq (Fin.aE (Fin.ar ?_))
     exact Fin.join [0,9,10,11] [] () (Option.some.inj h7) rfl
   ·rintro _ hv
    subst v6
    refine ab.aa (Oc (bh rfl rfl) (Oc om ?_))
    refine af.nil ?_
    exact Fin.bp [0,9,10,11] [] (IntKind.i64.wrap (x_1 + 1)) (Option.some.inj h4) rfl
  ·refine ab.exit (Fin.aq ?_)
   obtain rfl:=hy5 _ (Option.some.inj h4).symm
   refine Fin.aq (Fin.aE ?_)
   exact Fin.join [] [] () rfl rfl
 ·rintro _ hv
  subst v1
  refine ab.seq (ab.aa ?_)
  refine Oc oa (af.ak ⟨[(4,B true)],[]⟩ rfl (ab.ret ?_))
  obtain rfl:=Option.some.inj h
  refine Fin.ai ⟨[(4,_)],[]⟩ rfl (Fin.aM [.one (.bool true)] (.inl rfl) rfl (.cons (.tmp rfl) .nil) ⟨rfl,rfl⟩)
def cn (F:Nat):Nat → Int → cZ → Option (Int × cZ)
 | 0,_,_=>none
 | n + 1,x0,c0up=>if (!(eT c0up x0)) = true then (some (x0,gi c0up x0 x0)) else (if (decide ((fP c0up x0) = x0)) = true then (some (x0,c0up)) else (Option.bind (cn F n (fP c0up x0) c0up) (eU fun x_1 x_2=>some (x_1,gi x_2 x0 x_1))))
def dp (F:Nat) (x0:Int) (c0up:cZ):Option (Int × cZ):=cn F F x0 c0up
theorem lK {F:Nat}:∀ (n:Nat) {x0:Int} {c0up:cZ} {r:Int × cZ} (h:cn F n x0 c0up = some r),aA Try.prog [] 93 [(1,.mq c0up)] [.xa [.row 1],.one (.i x0)] (Is [(1,.mq r.2)] (.b (.one (.i r.1)))):=by
 intro n
 induction n with
 | zero=>intro x0 c0up r h; simp [cn] at h
 | succ n ih=>
 intro x0 c0up r h
 unfold cn at h
 refine aA.intro 34 Try.func93 Try.ntmps93 rfl (by simp) fun E=>?_
 show ab _ E ⟨34,[1],[1],[]⟩ _ ⟨[(0,.b (.xa [.row 1])),(1,I x0)],[(1,.mq c0up)]⟩ _
 refine ab.seq (ab.aa ?_)
 refine Oc (qp (k:=101) rfl rfl rfl rfl) (Oc oa ?_)
 refine af.ak ⟨[(1,I x0),(2,Pt 101 0)],[(1,.mq c0up),(101,.aW 119 [.row 1])]⟩ rfl (ab.seq (ab.aa ?_))
 refine Oc (ae lb rfl rfl) (Oc (aX nI rfl rfl rfl) (Oc om (Oc (w4 jv rfl rfl rfl) (Oc om (Oc (aZ rfl rfl) ?_)))))
 refine Oc (aZ rfl rfl) (Oc oa (Oc oa ?_))
 refine af.ak ⟨[(1,_),(2,_),(5,I (fP c0up x0)),(6,B (eT c0up x0))],[(1,_),(101,_)]⟩ rfl (ab.seq (ab.seq (ab.aa ?_)))
 refine Oc om (Oc (cL rfl) ?_)
 refine af.ak ⟨[(1,_),(2,_),(5,_),(16,B (!(eT c0up x0)))],[(1,_),(101,_)]⟩ rfl (ab.ite h rfl (fun _ h=>?_) (fun _ h=>?_))
 ·refine ab.seq (ab.aa ?_)
  refine Oc (ae lb rfl rfl) (Oc (aX nI rfl rfl rfl) (Oc om (Oc om (Oc (pL jv rfl rfl rfl rfl) ?_))))
  refine af.ak ⟨[(1,_)],[(1,.mq (gi c0up x0 x0))]⟩ rfl (ab.seq (ab.aa ?_))
  refine Oc om (Oc oa ?_)
  refine af.ak ⟨[(4,I x0)],[(1,_)]⟩ rfl (ab.ret (Fin.aw ?_))
  obtain rfl:=Option.some.inj h
  refine Fin.ai ⟨[(4,_)],[(1,_)]⟩ rfl ?_
  exact Fin.result [.one (.i x0)] (.inl rfl) rfl (.cons (.tmp rfl) .nil) ⟨rfl,rfl⟩
 ·refine ab.skip (Fin.ai ⟨[(1,_),(2,_),(5,_)],[(1,_),(101,_)]⟩ rfl (Fin.then (ab.seq (ab.seq (ab.aa ?_)))))
  refine Oc om (Oc om (Oc (di rfl rfl) ?_))
  refine af.ak ⟨[(1,_),(2,_),(5,_),(24,B (decide ((fP c0up x0) = x0)))],[(1,_),(101,_)]⟩ rfl (ab.ite h rfl (fun _ h=>?_) (fun _ h=>?_))
  ·refine ab.seq (ab.aa ?_)
   refine Oc om (Oc oa ?_)
   refine af.ak ⟨[(4,I x0)],[(1,_)]⟩ rfl (ab.ret (Fin.aw ?_))
   obtain rfl:=Option.some.inj h
   refine Fin.ai ⟨[(4,_)],[(1,_)]⟩ rfl ?_
   exact Fin.result [.one (.i x0)] (.inl rfl) rfl (.cons (.tmp rfl) .nil) ⟨rfl,rfl⟩
  ·refine ab.skip (Fin.ai ⟨[(1,_),(2,_),(5,_)],[(1,_),(101,_)]⟩ rfl (Fin.then (ab.seq (ab.aa ?_))))
   refine Oc ((hU kf rfl rfl rfl rfl).tF rfl) (Oc om ?_)
   obtain ⟨⟨x_1,x_2⟩,e1,h⟩:=aP h
   refine Oc (bL (own_a:=[(1,_)]) (ih e1) s9 rfl ⟨rfl,trivial⟩ rfl rfl) (Oc oa ?_)
   refine af.ak ⟨[(1,_),(2,_),(7,I x_1)],[(1,.mq x_2),(101,_)]⟩ rfl (ab.seq (ab.aa ?_))
   refine Oc (ae lb rfl rfl) (Oc (aX nI rfl rfl rfl) (Oc om (Oc om (Oc (pL jv rfl rfl rfl rfl) ?_))))
   refine af.ak ⟨[(7,_)],[(1,.mq (gi x_2 x0 x_1))]⟩ rfl (ab.seq (ab.aa ?_))
   refine Oc om (Oc oa ?_)
   refine af.ak ⟨[(4,I x_1)],[(1,_)]⟩ rfl (ab.ret ?_)
   obtain rfl:=Option.some.inj h
   refine Fin.ai ⟨[(4,_)],[(1,_)]⟩ rfl ?_
   exact Fin.result [.one (.i x_1)] (.inl rfl) rfl (.cons (.tmp rfl) .nil) ⟨rfl,rfl⟩
theorem ga {F:Nat} {x0:Int} {c0up:cZ} {r:Int × cZ} (h:dp F x0 c0up = some r):aA Try.prog [] 93 [(1,.mq c0up)] [.xa [.row 1],.one (.i x0)] (Is [(1,.mq r.2)] (.b (.one (.i r.1)))):=lK F h
def cp (F:Nat) (x0:Int) (y0:Int) (c0up:cZ):Option (Bool × cZ) :=
 Option.bind (dp F x0 c0up) (eU fun x_1 x_2=>Option.bind (dp F y0 x_2) (eU fun x_3 x_4=>if (decide (x_1 = x_3)) = true then (some (false,x_4)) else (some (true,gi x_4 (max x_1 x_3) (min x_1 x_3)))))
theorem mw {F:Nat} {x0:Int} {y0:Int} {c0up:cZ} {r:Bool × cZ} (h:cp F x0 y0 c0up = some r):aA Try.prog [] 71 [(1,.mq c0up)] [.xa [.row 1],.one (.i x0),.one (.i y0)] (Is [(1,.mq r.2)] (.b (.one (.bool r.1)))):=by
 unfold cp at h
 refine aA.intro 26 Try.func71 Try.ntmps71 rfl (by simp) fun E=>?_
 show ab _ E ⟨26,[1],[1],[]⟩ _ ⟨[(0,.b (.xa [.row 1])),(1,I x0),(2,I y0)],[(1,.mq c0up)]⟩ _
 refine ab.seq (ab.aa ?_)
 refine Oc (qp (k:=101) rfl rfl rfl rfl) (Oc oa ?_)
 refine af.ak ⟨[(1,I x0),(2,I y0),(3,Pt 101 0)],[(1,.mq c0up),(101,.aW 119 [.row 1])]⟩ rfl (ab.seq ?_)
 obtain ⟨⟨x_1,x_2⟩,e1,h⟩:=aP h
 obtain ⟨⟨x_3,x_4⟩,e2,h⟩:=aP h
 refine ab.ff mixed [false,false,true,false,false,true,false,false] [.b (.xa [.row 1]),I x0,I x_1,.b (.xa [.row 1]),I y0,I x_3,I x_1,I x_3] [⟨[false,false,false,false,false,false,false,false],[(1,I x0),(2,I y0),(3,Pt 101 0)],[(1,.mq c0up),(101,.aW 119 [.row 1])],[true,true,true,true,true,true,true,true],[],[5,6,7]⟩,⟨[false,false,true,false,false,false,false,false],[(1,I x0),(2,I y0),(3,Pt 101 0)],[(1,.mq x_2),(101,.aW 119 [.row 1])],[true,true,true,true,true,true,true,true],[0,1,2],[6,7]⟩,⟨[false,false,true,false,false,true,false,false],[(1,I x0),(2,I y0),(3,Pt 101 0)],[(1,.mq x_4),(101,.aW 119 [.row 1])],[true,true,true,true,true,true,true,true],[0,1,2,3,4,5],[]⟩] rfl (⟨by kernel_rfl,⟨⟨.b (.xa [.row 1]),fun _=>rfl,fun _=>.p (by exact (hU kf rfl rfl rfl rfl).tF rfl)⟩,⟨I x0,fun _=>rfl,fun _=>.p (by exact ax rfl)⟩,⟨_,[],I x_1,rfl,fun _=>rfl,rfl,rfl,fun _=>.jG [1,101] (by exact .p (by exact bL (own_a:=[(1,_)]) (ga e1) s9 rfl ⟨rfl,trivial⟩ rfl rfl)) (by exact rfl)⟩,⟨.b (.xa [.row 1]),fun _=>rfl,fun _=>.p (by exact (hU kf rfl rfl rfl rfl).tF rfl)⟩,⟨I y0,fun _=>rfl,fun _=>.p (by exact ax rfl)⟩,trivial,trivial,trivial,trivial⟩,⟨by kernel_rfl,⟨trivial,trivial,trivial,⟨.b (.xa [.row 1]),fun _=>rfl,fun _=>.p (by exact (hU kf rfl rfl rfl rfl).tF rfl)⟩,⟨I y0,fun _=>rfl,fun _=>.p (by exact ax rfl)⟩,⟨_,[],I x_3,rfl,fun _=>rfl,rfl,rfl,fun _=>.jG [1,101] (by exact .p (by exact bL (own_a:=[(1,_)]) (ga e2) s9 rfl ⟨rfl,trivial⟩ rfl rfl)) (by exact rfl)⟩,trivial,trivial,trivial⟩,⟨by kernel_rfl,⟨trivial,trivial,trivial,trivial,trivial,trivial,⟨I x_1,fun _=>rfl,fun _=>.p (by exact dH rfl)⟩,⟨I x_3,fun _=>rfl,fun _=>.p (by exact dH rfl)⟩,trivial⟩,trivial⟩⟩⟩) rfl rfl rfl [3,7,8] [1,101] (s':=⟨[(3,_),(7,I x_1),(8,I x_3)],[(1,.mq x_4),(101,_)]⟩) rfl (ab.seq (ab.seq (ab.aa ?_)))
 refine Oc om (Oc om (Oc (di rfl rfl) ?_))
 refine af.ak ⟨[(3,_),(7,_),(8,_),(17,B (decide (x_1 = x_3)))],[(1,_),(101,_)]⟩ rfl (ab.ite h rfl (fun _ h=>?_) (fun _ h=>?_))
 ·refine ab.seq (ab.aa ?_)
  refine Oc oa (af.ak ⟨[(6,B false)],[(1,_)]⟩ rfl (ab.ret (Fin.aw ?_)))
  obtain rfl:=Option.some.inj h
  refine Fin.ai ⟨[(6,_)],[(1,_)]⟩ rfl ?_
  exact Fin.result [.one (.bool false)] (.inl rfl) rfl (.cons (.tmp rfl) .nil) ⟨rfl,rfl⟩
 ·refine ab.skip (Fin.ai ⟨[(3,_),(7,_),(8,_)],[(1,_),(101,_)]⟩ rfl (Fin.then (ab.seq (ab.aa ?_))))
  refine Oc (ae lb rfl rfl) (Oc (aX nI rfl rfl rfl) (Oc om (Oc om (Oc (op_max rfl rfl) (Oc om ?_)))))
  refine af.ai ⟨[(8,_),(19,.b (.row 1)),(22,I (max x_1 x_3)),(23,I x_1)],[(1,_)]⟩ rfl (Oc om (Oc (op_min rfl rfl) (Oc (pL jv rfl rfl rfl rfl) ?_)))
  refine af.ak ⟨[],[(1,.mq (gi x_4 (max x_1 x_3) (min x_1 x_3)))]⟩ rfl (ab.seq (ab.aa ?_))
  refine Oc oa (af.ak ⟨[(6,B true)],[(1,_)]⟩ rfl (ab.ret ?_))
  obtain rfl:=Option.some.inj h
  refine Fin.ai ⟨[(6,_)],[(1,_)]⟩ rfl ?_
  exact Fin.result [.one (.bool true)] (.inl rfl) rfl (.cons (.tmp rfl) .nil) ⟨rfl,rfl⟩
def bX (F:Nat) (c0up:cZ):Option ((List (List Int)) × cZ) :=
 Option.bind (s7 c0up) (fun ks_1=>(dU F (ks_1)).bind fun x_7=>Option.bind (iter F (wJ fun up_10 at_11 out_12 x_13=>if (decide (x_13 < (x_7.length:Int))) = true then (Option.bind ((aV x_7 x_13).bind fun x_19=>Option.bind (dp F x_19 up_10) (eU fun x_20 x_21=>Option.bind (if (decide (x_20 = x_19)) = true then ((eF out_12 [[]]).bind fun x_24=>some (gi at_11 x_19 (out_12.length:Int),x_24)) else (some (at_11,out_12))) (eU fun at_22 out_23=>(aV out_23 (fP at_22 x_20)).bind fun x_25=>(eF x_25 [x_19]).bind fun x_26=>(aV out_23 (fP at_22 x_20)).bind fun x_27=>some (x_21,at_22,out_23.set (fP at_22 x_20:Int).toNat x_26)))) (rf fun up_16 at_17 out_18=>some (.inl (up_16,at_17,out_18,IntKind.i64.wrap (x_13 + 1))))) else (some (.inr (out_12,up_10)))) (c0up,([]:cZ),[],0)) (eU fun out_8 y_9=>some (out_8,y_9)))
theorem mu {F:Nat} {c0up:cZ} {r:(List (List Int)) × cZ} (h:bX F c0up = some r):aA Try.prog [] 72 [(1,.mq c0up)] [.xa [.row 1]] (Is [(1,.mq r.2)] (.b (.one (.sl 1 (r.1.map (eL 1 eI)))))):=by
 unfold bX at h
 refine aA.intro 59 Try.func72 Try.ntmps72 rfl (by simp) fun E=>?_
 show ab _ E ⟨59,[1],[1],[]⟩ _ ⟨[(0,.b (.xa [.row 1]))],[(1,.mq c0up)]⟩ _
 refine ab.seq (ab.aa ?_)
 refine Oc (qp (k:=101) rfl rfl rfl rfl) (Oc oa ?_)
 refine af.ak ⟨[(1,Pt 101 0)],[(1,.mq c0up),(101,.aW 119 [.row 1])]⟩ rfl (ab.seq (ab.aa ?_))
 refine Oc oa (af.ak ⟨[(1,_),(3,.b (.one (.nil)))],[(1,_),(101,_)]⟩ rfl (ab.seq (ab.seq (ab.aa ?_))))
 refine Oc (ae lb rfl rfl) (Oc (aX nI rfl rfl rfl) (Oc (tz 102 th rfl rfl (by decide) rfl rfl) ?_))
 refine af.ak ⟨[(1,_),(3,_),(12,Pt 102 0)],[(101,_),(102,.ly 1 c0up c0up none)]⟩ rfl (ab.dc 3 103 1 3 rfl (by decide) rfl (ab.ai ⟨[(1,_),(3,.b (.row 103)),(12,_)],[(101,_),(102,_),(103,.row 3 1 ([].map eI))]⟩ rfl ?_))
 obtain ⟨ks_1,e1,h⟩:=aP h
 obtain ⟨hk2,rfl⟩:=yE e1
 refine ab.block (ab.loop (fun (q:List Int × cZ)=>⟨[(1,Pt 101 0),(3,.b (.row 103)),(12,Pt 102 0)],[(101,.aW 119 [.row 1]),(102,.ly 1 c0up q.2 none),(103,.row 3 1 (q.1.map eI))]⟩) (fun q=>(q.1 ++ q.2.map (·.1)).Perm (c0up.map (·.1))) (fun q=>q.2.length) ([],c0up) (by simp) rfl ?_)
 rintro ⟨vis_2,rs_3⟩ hI3
 refine ab.seq (ab.aa ?_)
 refine af.nextM rfl rfl rfl (fun hr4=>?_) (fun p_4 r_5 r_6 hr4=>?_)
 ·subst hr4
  have hp5:vis_2.Perm (c0up.map (·.1)):=by simpa using hI3
  refine Oc (aZ rfl rfl) (af.ak ⟨[(1,_),(3,_),(12,_),(14,B false)],[(101,_),(102,.ly 1 c0up [] none),(103,.row 3 1 (vis_2.map eI))]⟩ rfl (ab.seq (ab.xE rfl (ab.exit (Fin.aq ?_)))))
  refine Fin.aq (Fin.ai ⟨[(1,_),(3,_),(12,_)],[(101,_),(102,_),(103,_)]⟩ rfl (Fin.uR 102 rfl rfl (Fin.aE (Fin.ai ⟨[(1,_),(3,_)],[(1,.mq c0up),(101,_),(103,_)]⟩ rfl (Fin.then (ab.seq (ab.aa ?_)))))))
  refine Oc om (af.toF 103 rfl ?_)
  obtain ⟨x_7,e6,h⟩:=aP h
  refine Oc (bL (own_a:=[(103,_)]) ((mJ (F:=F) (vo hp5 e6)).sw 1 103) xQ rfl ⟨rfl,trivial⟩ rfl rfl) (af.unF 103 rfl (af.ak ⟨[(1,_),(3,_)],[(1,_),(101,_),(103,.row 3 1 (x_7.map eI))]⟩ rfl (ab.seq (ab.aa ?_))))
  refine Oc (qL (k:=104) th rfl) (Oc oa ?_)
  refine af.ak ⟨[(1,_),(3,_),(5,.b (.row 104))],[(1,_),(101,_),(103,_),(104,.mq ([]:cZ))]⟩ rfl (ab.seq (ab.aa ?_))
  refine Oc oa (af.ak ⟨[(1,_),(3,_),(5,_),(6,.b (.one (.nil)))],[(1,_),(101,_),(103,_),(104,_)]⟩ rfl ?_)
  obtain ⟨v7,h8,h⟩:=aP h
  refine ab.ca (v:=v7) (eU fun (out_8:List (List Int)) (y_9:cZ)=>⟨[(6,.b (.row 106))],[(1,.mq y_9),(106,.rr 22 3 1 none (out_8.map (eR eI)))]⟩) (fun z=>z) ?_ ?_
  ·refine ab.seq (ab.aa ?_)
   refine Oc om (Oc (fN bR rfl rfl (List.length_map _)) (Oc om ?_))
   refine af.ak ⟨[(1,_),(5,_),(6,_),(24,.b (.row 103)),(25,I (x_7.length:Int)),(26,I 0)],[(1,_),(101,_),(103,_),(104,_)]⟩ rfl (ab.block (ab.rk 6 106 1 22 3 rfl (by decide) rfl (ab.bZ h8 (wJ fun (up_10:cZ) (at_11:cZ) (out_12:List (List Int)) (x_13:Int)=>⟨[(1,Pt 101 0),(5,.b (.row 104)),(6,.b (.row 106)),(24,.b (.row 103)),(25,I (x_7.length:Int)),(26,I x_13)],[(1,.mq up_10),(101,.aW 119 [.row 1]),(103,.row 3 1 (x_7.map eI)),(104,.mq at_11),(106,.rr 22 3 1 none (out_12.map (eR eI)))]⟩) [1,5,6,24,25,26] [1,101,103,104,106] rfl ?_)))
   rintro ⟨up_10,at_11,out_12,x_13⟩ o9 h10 hy11
   refine ab.seq (ab.aa ?_)
   refine Oc (aY rfl rfl) (af.ak ⟨[(1,_),(5,_),(6,_),(24,_),(25,_),(26,_),(27,B (decide (x_13 < (x_7.length:Int))))],[(1,_),(101,_),(103,_),(104,_),(106,_)]⟩ rfl (ab.seq (ab.ite h10 rfl (fun _ h10=>?_) (fun _ h10=>?_))))
   ·refine ab.skip (Fin.ai ⟨[(1,_),(5,_),(6,_),(24,_),(25,_),(26,_)],[(1,_),(101,_),(103,_),(104,_),(106,_)]⟩ rfl (Fin.then ?_))
    obtain ⟨v12,h13,h10⟩:=aP h10
    refine ab.ca (v:=v12) (rf fun (up_16:cZ) (at_17:cZ) (out_18:List (List Int))=>⟨[(1,Pt 101 0),(5,.b (.row 104)),(6,.b (.row 106)),(24,.b (.row 103)),(25,I (x_7.length:Int)),(26,I x_13)],[(1,.mq up_16),(101,.aW 119 [.row 1]),(103,.row 3 1 (x_7.map eI)),(104,.mq at_17),(106,.rr 22 3 1 none (out_18.map (eR eI)))]⟩) (fun z=>z) ?_ ?_
    ·refine ab.block (ab.seq (ab.aa ?_))
     obtain ⟨x_19,e14,h13⟩:=aP h13
     refine Oc (bq aQ (aL e14) (dy e14) rfl rfl rfl rfl) (Oc (cS (i:=(x_13:Int).toNat) (f:=0) aD rfl rfl rfl (aB (e:=eI) e14) rfl) (Oc oa ?_))
     refine af.ak ⟨[(1,_),(5,_),(6,_),(8,I x_19),(24,_),(25,_),(26,_)],[(1,_),(101,_),(103,_),(104,_),(106,_)]⟩ rfl (ab.seq (ab.aa ?_))
     refine Oc ((hU kf rfl rfl rfl rfl).tF rfl) (Oc om ?_)
     obtain ⟨⟨x_20,x_21⟩,e15,h13⟩:=aP h13
     refine Oc (bL (own_a:=[(1,_)]) (ga e15) s9 rfl ⟨rfl,trivial⟩ rfl rfl) (Oc oa ?_)
     refine af.ak ⟨[(1,_),(5,_),(6,_),(8,_),(9,I x_20),(24,_),(25,_),(26,_)],[(1,.mq x_21),(101,_),(103,_),(104,_),(106,_)]⟩ rfl ?_
     obtain ⟨v16,h17,h13⟩:=aP h13
     refine ab.ca (v:=v16) (eU fun (at_22:cZ) (out_23:List (List Int))=>⟨[(1,Pt 101 0),(5,.b (.row 104)),(6,.b (.row 106)),(8,I x_19),(9,I x_20),(24,.b (.row 103)),(25,I (x_7.length:Int)),(26,I x_13)],[(1,.mq x_21),(101,.aW 119 [.row 1]),(103,.row 3 1 (x_7.map eI)),(104,.mq at_22),(106,.rr 22 3 1 none (out_23.map (eR eI)))]⟩) (fun z=>z) ?_ ?_
     ·refine ab.seq (ab.aa ?_)
      refine Oc om (Oc om (Oc (di rfl rfl) ?_))
      refine af.ak ⟨[(1,_),(5,_),(6,_),(8,_),(9,_),(24,_),(25,_),(26,_),(35,B (decide (x_20 = x_19)))],[(1,_),(101,_),(103,_),(104,_),(106,_)]⟩ rfl (ab.ite h17 rfl (fun _ h17=>?_) (fun _ h17=>?_))
      ·refine ab.seq (ab.aa ?_)
       refine Oc om (Oc om (Oc om (Oc (vB jr rfl rfl (List.length_map _)) (Oc (pL jv rfl rfl rfl rfl) ?_))))
       refine af.ak ⟨[(1,_),(5,_),(6,_),(8,_),(9,_),(24,_),(25,_),(26,_)],[(1,_),(101,_),(103,_),(104,.mq (gi at_11 x_19 (out_12.length:Int))),(106,_)]⟩ rfl (ab.aa (Oc om (Oc (aO (k:=107) (es:=[[.nil]]) bY rfl rfl (fun ps h=>by simp at h; subst h; rfl) rfl (by decide) (by decide) rfl) ?_)))
       obtain ⟨x_24,e18,h17⟩:=aP h17
       refine Oc (rU bY (rr_b e18) (rr_m e18) rfl rfl rfl rfl (rr_app e18) rfl) (Oc oa ?_)
       refine af.nil ?_
       exact Fin.join [1,5,6,8,9,24,25,26] [1,101,103,104,106] (gi at_11 x_19 (out_12.length:Int),x_24) (Option.some.inj h17) rfl
      ·refine ab.skip ?_
       exact Fin.join [1,5,6,8,9,24,25,26] [1,101,103,104,106] (at_11,out_12) (Option.some.inj h17) rfl
     ·rintro ⟨at_22,out_23⟩ hv
      subst v16
      refine ab.ai ⟨[(1,_),(5,_),(6,_),(8,_),(9,_),(24,_),(25,_),(26,_)],[(1,_),(101,_),(103,_),(104,_),(106,_)]⟩ rfl ?_
      obtain ⟨x_25,e19,h13⟩:=aP h13
      obtain ⟨x_26,e20,h13⟩:=aP h13
      obtain ⟨x_27,e21,h13⟩:=aP h13
      refine ab.nJ mixed [false,false,false,false,false,false,false,false,false,true,false,false,true,false,true] [.b (.row 106),.b (.row 104),I x_20,I (fP at_22 x_20),.b (.row 106),.b (.row 104),I x_20,I (fP at_22 x_20),.b (.eQ 106 (fP at_22 x_20:Int).toNat),.b (.row 108),I x_19,.b (.one (.sl 1 ([x_19].map eI))),.b (.row 110),.b (.eQ 106 (fP at_22 x_20:Int).toNat),B true] [⟨[false,false,false,false,false,false,false,false,false,false,false,false,false,false,false],[(1,Pt 101 0),(5,.b (.row 104)),(6,.b (.row 106)),(8,I x_19),(9,I x_20),(24,.b (.row 103)),(25,I (x_7.length:Int)),(26,I x_13)],[(1,.mq x_21),(101,.aW 119 [.row 1]),(103,.row 3 1 (x_7.map eI)),(104,.mq at_22),(106,.rr 22 3 1 none (out_23.map (eR eI)))],[true,true,true,true,true,true,true,true,true,true,true,true,true,true,true],[],[12,13,14]⟩,⟨[false,false,false,false,false,false,false,false,false,true,false,false,false,false,false],[(1,Pt 101 0),(5,.b (.row 104)),(6,.b (.row 106)),(8,I x_19),(9,I x_20),(24,.b (.row 103)),(25,I (x_7.length:Int)),(26,I x_13)],[(1,.mq x_21),(101,.aW 119 [.row 1]),(103,.row 3 1 (x_7.map eI)),(104,.mq at_22),(106,.rr 22 3 1 (some (fP at_22 x_20:Int).toNat) (out_23.map (eR eI))),(108,.row 3 1 (x_25.map eI))],[true,true,true,true,true,true,true,true,true,true,true,true,true,true,true],[4,5,6,7,8,9],[13,14]⟩,⟨[false,false,false,false,false,false,false,false,false,true,false,false,true,false,false],[(1,Pt 101 0),(5,.b (.row 104)),(6,.b (.row 106)),(8,I x_19),(9,I x_20),(24,.b (.row 103)),(25,I (x_7.length:Int)),(26,I x_13)],[(1,.mq x_21),(101,.aW 119 [.row 1]),(103,.row 3 1 (x_7.map eI)),(104,.mq at_22),(106,.rr 22 3 1 (some (fP at_22 x_20:Int).toNat) (out_23.map (eR eI))),(110,.row 3 1 (x_26.map eI))],[true,true,true,true,true,true,true,true,true,true,true,true,true,true,true],[4,5,6,7,8,9,10,11,12],[]⟩,⟨[false,false,false,false,false,false,false,false,false,true,false,false,true,false,true],[(1,Pt 101 0),(5,.b (.row 104)),(6,.b (.row 106)),(8,I x_19),(9,I x_20),(24,.b (.row 103)),(25,I (x_7.length:Int)),(26,I x_13)],[(1,.mq x_21),(101,.aW 119 [.row 1]),(103,.row 3 1 (x_7.map eI)),(104,.mq at_22),(106,.rr 22 3 1 none ((out_23.set (fP at_22 x_20:Int).toNat x_26).map (eR eI)))],[true,true,true,true,true,true,true,true,true,true,true,true,false,true,true],[0,1,2,3,4,5,6,7,8,9,10,11,12,13,14],[]⟩] rfl (⟨by kernel_rfl,⟨⟨.b (.row 106),fun _=>rfl,fun _=>.p (by exact ax rfl)⟩,⟨.b (.row 104),fun _=>rfl,fun _=>.p (by exact ax rfl)⟩,⟨I x_20,fun _=>rfl,fun _=>.p (by exact ax rfl)⟩,⟨I (fP at_22 x_20),fun _=>rfl,fun _=>.p (by exact ow jv rfl rfl rfl)⟩,⟨.b (.row 106),fun _=>rfl,fun _=>.p (by exact ax rfl)⟩,⟨.b (.row 104),fun _=>rfl,fun _=>.p (by exact ax rfl)⟩,⟨I x_20,fun _=>rfl,fun _=>.p (by exact ax rfl)⟩,⟨I (fP at_22 x_20),fun _=>rfl,fun _=>.p (by exact ow jv rfl rfl rfl)⟩,⟨.b (.eQ 106 (fP at_22 x_20:Int).toNat),fun _=>rfl,fun _=>.p (by exact qM bY (aL e19) (dy e19) rfl rfl rfl rfl)⟩,⟨_,[108],.b (.row 108),rfl,fun _=>rfl,rfl,rfl,fun _=>.jG [1,101,103,104,106,108] (by exact .p (by exact vA (i:=(fP at_22 x_20:Int).toNat) 108 aN rfl rfl rfl (aB (e:=eR eI) e19) (by decide) rfl rfl)) (by exact rfl)⟩,⟨I x_19,fun _=>rfl,fun _=>.p (by exact ax rfl)⟩,⟨.b (.one (.sl 1 ([x_19].map eI))),fun _=>rfl,fun _=>.p (by exact cg (es:=[x_19].map eI) aQ rfl rfl (bc fun _=>rfl) rfl (by decide) (by decide))⟩,trivial,trivial,trivial,trivial⟩,⟨by kernel_rfl,⟨⟨.b (.row 106),fun _=>rfl,fun _=>.p (by exact ax rfl)⟩,⟨.b (.row 104),fun _=>rfl,fun _=>.p (by exact ax rfl)⟩,⟨I x_20,fun _=>rfl,fun _=>.p (by exact ax rfl)⟩,⟨I (fP at_22 x_20),fun _=>rfl,fun _=>.p (by exact ow jv rfl rfl rfl)⟩,trivial,trivial,trivial,trivial,trivial,trivial,⟨I x_19,fun _=>rfl,fun _=>.p (by exact ax rfl)⟩,⟨.b (.one (.sl 1 ([x_19].map eI))),fun _=>rfl,fun _=>.p (by exact cg (es:=[x_19].map eI) aQ rfl rfl (bc fun _=>rfl) rfl (by decide) (by decide))⟩,⟨_,[110],.b (.row 110),rfl,fun _=>rfl,rfl,rfl,fun _=>.jG [1,101,103,104,106,110] (by exact .p (by exact jz (k2:=110) aQ (ec e20) (dZ e20) rfl rfl rfl (cf e20) rfl rfl rfl rfl rfl)) (by exact rfl)⟩,trivial,trivial,trivial⟩,⟨by kernel_rfl,⟨⟨.b (.row 106),fun _=>rfl,fun _=>.p (by exact ax rfl)⟩,⟨.b (.row 104),fun _=>rfl,fun _=>.p (by exact ax rfl)⟩,⟨I x_20,fun _=>rfl,fun _=>.p (by exact ax rfl)⟩,⟨I (fP at_22 x_20),fun _=>rfl,fun _=>.p (by exact ow jv rfl rfl rfl)⟩,trivial,trivial,trivial,trivial,trivial,trivial,trivial,trivial,trivial,⟨.b (.eQ 106 (fP at_22 x_20:Int).toNat),fun _=>rfl,fun _=>.p (by exact qM bY (aL e21) (dy e21) rfl rfl rfl rfl)⟩,⟨_,[110],.b (.one .any),rfl,(fun e=>by simp at e),rfl,rfl,fun _=>.jG [1,101,103,104,106] (by exact .p (by exact uo aN rfl rfl rfl rfl rfl (nD e21) (by decide) (set_map _ _ _ _))) (by exact rfl)⟩,trivial⟩,⟨by kernel_rfl,⟨trivial,trivial,trivial,trivial,trivial,trivial,trivial,trivial,trivial,trivial,trivial,trivial,trivial,trivial,trivial,trivial⟩,trivial⟩⟩⟩⟩) rfl rfl rfl [1,5,6,24,25,26] [1,101,103,104,106] (s':=⟨[(1,_),(5,_),(6,_),(24,_),(25,_),(26,_)],[(1,_),(101,_),(103,_),(104,_),(106,.rr 22 3 1 none ((out_23.set (fP at_22 x_20:Int).toNat x_26).map (eR eI)))]⟩) rfl ?_
      refine Fin.ar ?_
      exact Fin.join [1,5,6,24,25,26] [1,101,103,104,106] (x_21,at_22,out_23.set (fP at_22 x_20:Int).toNat x_26) (Option.some.inj h13) rfl
    ·rintro ⟨up_16,at_17,out_18⟩ hv
     subst v12
     refine ab.aa (Oc (bh rfl rfl) (Oc om ?_))
     refine af.nil ?_
     exact Fin.bp [1,5,6,24,25,26] [1,101,103,104,106] (up_16,at_17,out_18,IntKind.i64.wrap (x_13 + 1)) (Option.some.inj h10) rfl
   ·refine ab.exit (Fin.aq ?_)
    obtain rfl:=hy11 _ (Option.some.inj h10).symm
    refine Fin.aq (Fin.aE ?_)
    exact Fin.join [6] [1,106] (out_12,up_10) rfl rfl
  ·rintro ⟨out_8,y_9⟩ hv
   subst v7
   refine ab.seq (ab.aa ?_)
   refine Oc om (Oc oa ?_)
   refine af.ak ⟨[(2,.b (.row 106))],[(1,_),(106,_)]⟩ rfl (ab.ret ?_)
   obtain rfl:=Option.some.inj h
   refine Fin.ai ⟨[(2,_)],[(1,_),(106,_)]⟩ rfl (Fin.qk 106 rfl (rr_sl _) (Fin.ai ⟨[(2,.b (.one (.sl 1 (out_8.map (eL 1 eI)))))],[(1,_)]⟩ rfl ?_))
   exact Fin.result [.one (.sl 1 (out_8.map (eL 1 eI)))] (.inl rfl) rfl (.cons (.tmp rfl) .nil) ⟨rfl,rfl⟩
 ·subst hr4
  refine Oc (aZ rfl rfl) (af.ak ⟨[(1,_),(3,_),(12,_),(14,B true)],[(101,_),(102,.ly 1 c0up (r_5 ++ r_6) (some p_4)),(103,.row 3 1 (vis_2.map eI))]⟩ rfl (ab.seq (ab.tL rfl (ab.skip (Fin.ai ⟨[(1,_),(3,_),(12,_)],[(101,_),(102,_),(103,_)]⟩ rfl ?_)))))
  refine Fin.then (ab.block (ab.seq (ab.aa ?_)))
  refine Oc (tB rfl rfl) (Oc (aZ rfl rfl) (Oc oa ?_))
  refine af.ak ⟨[(1,_),(3,_),(4,I p_4.1),(12,_)],[(101,_),(102,_),(103,_)]⟩ rfl (ab.aa (Oc om (Oc om (Oc (aO (k:=111) (es:=[p_4.1].map eI) aQ rfl rfl (bc fun _=>rfl) rfl (by decide) (by decide) rfl) (Oc (b4 aQ (ec (ix (pj hI3 hk2))) (dZ (ix (pj hI3 hk2))) rfl rfl rfl rfl (cf (ix (pj hI3 hk2))) rfl) (Oc oa ?_))))))
  refine af.nil (Fin.ar (Fin.ai ⟨[(1,_),(3,_),(12,_)],[(101,_),(102,_),(103,.row 3 1 ((vis_2 ++ [p_4.1]).map eI))]⟩ rfl (Fin.uQ 102 rfl ?_)))
  exact Fin.again ((vis_2 ++ [p_4.1]),r_5 ++ r_6) (ux hI3) (by simp) rfl
def cT (F:Nat) (lists0:List (List (List Int))):Option (List (List Int)) :=
 Option.bind (iter F (eU fun up_2 x_3=>if (decide (x_3 < (lists0.length:Int))) = true then (Option.bind ((aV lists0 x_3).bind fun x_6=>Option.bind (iter F (eU fun up_7 x_8=>if (decide (x_8 < (x_6.length:Int))) = true then (Option.bind ((aV x_6 x_8).bind fun x_11=>Option.bind (iter F (eU fun up_12 x_13=>if (decide (x_13 < (x_11.length:Int))) = true then ((aV x_11 x_13).bind fun x_15=>(aV x_11 0).bind fun x_16=>Option.bind (cp F x_16 x_15 up_12) (eU fun x_17 x_18=>some (.inl (x_18,IntKind.i64.wrap (x_13 + 1))))) else (some (.inr up_12))) (up_7,0)) (fun up_14=>some up_14)) (fun up_10=>some (.inl (up_10,IntKind.i64.wrap (x_8 + 1))))) else (some (.inr up_7))) (up_2,0)) (fun up_9=>some up_9)) (fun up_5=>some (.inl (up_5,IntKind.i64.wrap (x_3 + 1))))) else (some (.inr up_2))) (([]:cZ),0)) (fun up_1=>Option.bind (bX F up_1) (eU fun x_19 x_20=>some x_19))
theorem eZ {F:Nat} {lists0:List (List (List Int))} {r:(List (List Int))} (h:cT F lists0 = some r):aA Try.prog [] 31 [] [.one (.sl 1 (lists0.map (eL 1 (eL 1 eI))))] (Is [] (.b (.one (.sl 1 (r.map (eL 1 eI)))))):=by
 unfold cT at h
 refine aA.intro 41 Try.func31 Try.ntmps31 rfl (by simp) fun E=>?_
 show ab _ E ⟨41,[],[],[]⟩ _ ⟨[(0,.b (.one (.sl 1 (lists0.map (eL 1 (eL 1 eI))))))],[]⟩ _
 refine ab.seq (ab.aa ?_)
 refine Oc oa (af.ak ⟨[(0,.b (.one (.sl 1 (lists0.map (eL 1 (eL 1 eI))))))],[]⟩ rfl (ab.seq (ab.aa ?_)))
 refine Oc (qL (k:=101) th rfl) (Oc ((lf vm rfl rfl).tF rfl) (Oc (cz (k:=102) wP rfl) ?_))
 refine af.uF 102 rfl (Oc (qK kf rfl rfl rfl rfl rfl (Nat.le_of_ble_eq_true rfl) rfl) (af.ak ⟨[(0,.b (.one (.sl 1 (lists0.map (eL 1 (eL 1 eI)))))),(3,Pt 102 0)],[(101,.mq ([]:cZ)),(102,.aW 119 [.row 101])]⟩ rfl ?_))
 obtain ⟨v1,h2,h⟩:=aP h
 refine ab.ca (v:=v1) (fun (up_1:cZ)=>⟨[(3,Pt 102 0)],[(101,.mq up_1),(102,.aW 119 [.row 101])]⟩) (fun z=>z) ?_ ?_
 ·refine ab.seq (ab.aa ?_)
  refine Oc om (Oc (av und60 rfl (List.length_map _)) (Oc om ?_))
  refine af.ak ⟨[(3,_),(12,.b (.one (.sl 1 (lists0.map (eL 1 (eL 1 eI)))))),(13,I (lists0.length:Int)),(14,I 0)],[(101,_),(102,_)]⟩ rfl (ab.block (ab.bZ h2 (eU fun (up_2:cZ) (x_3:Int)=>⟨[(3,Pt 102 0),(12,.b (.one (.sl 1 (lists0.map (eL 1 (eL 1 eI)))))),(13,I (lists0.length:Int)),(14,I x_3)],[(101,.mq up_2),(102,.aW 119 [.row 101])]⟩) [3,12,13,14] [101,102] rfl ?_))
  rintro ⟨up_2,x_3⟩ o3 h4 hy5
  refine ab.seq (ab.aa ?_)
  refine Oc (aY rfl rfl) (af.ak ⟨[(3,_),(12,_),(13,_),(14,_),(15,B (decide (x_3 < (lists0.length:Int))))],[(101,_),(102,_)]⟩ rfl (ab.seq (ab.ite h4 rfl (fun _ h4=>?_) (fun _ h4=>?_))))
  ·refine ab.skip (Fin.ai ⟨[(3,_),(12,_),(13,_),(14,_)],[(101,_),(102,_)]⟩ rfl (Fin.then ?_))
   obtain ⟨v6,h7,h4⟩:=aP h4
   refine ab.ca (v:=v6) (fun (up_5:cZ)=>⟨[(3,Pt 102 0),(12,.b (.one (.sl 1 (lists0.map (eL 1 (eL 1 eI)))))),(13,I (lists0.length:Int)),(14,I x_3)],[(101,.mq up_5),(102,.aW 119 [.row 101])]⟩) (fun z=>z) ?_ ?_
   ·refine ab.block (ab.seq (ab.aa ?_))
    obtain ⟨x_6,e8,h7⟩:=aP h7
    refine Oc (an o7 (aL e8) (aB (e:=(eL 1 (eL 1 eI))) e8) rfl rfl) (Oc (au dT rfl rfl) (Oc oa ?_))
    refine af.ak ⟨[(3,_),(5,.b (.one (.sl 1 (x_6.map (eL 1 eI))))),(12,_),(13,_),(14,_)],[(101,_),(102,_)]⟩ rfl (ab.seq (ab.aa ?_))
    refine Oc om (Oc (av jr rfl (List.length_map _)) (Oc om ?_))
    refine af.ak ⟨[(3,_),(12,_),(13,_),(14,_),(18,.b (.one (.sl 1 (x_6.map (eL 1 eI))))),(19,I (x_6.length:Int)),(20,I 0)],[(101,_),(102,_)]⟩ rfl (ab.block ?_)
    obtain ⟨v9,h10,h7⟩:=aP h7
    refine ab.bZ h10 (eU fun (up_7:cZ) (x_8:Int)=>⟨[(3,Pt 102 0),(12,.b (.one (.sl 1 (lists0.map (eL 1 (eL 1 eI)))))),(13,I (lists0.length:Int)),(14,I x_3),(18,.b (.one (.sl 1 (x_6.map (eL 1 eI))))),(19,I (x_6.length:Int)),(20,I x_8)],[(101,.mq up_7),(102,.aW 119 [.row 101])]⟩) [3,12,13,14,18,19,20] [101,102] rfl ?_
    rintro ⟨up_7,x_8⟩ o11 h12 hy13
    refine ab.seq (ab.aa ?_)
    refine Oc (aY rfl rfl) (af.ak ⟨[(3,_),(12,_),(13,_),(14,_),(18,_),(19,_),(20,_),(21,B (decide (x_8 < (x_6.length:Int))))],[(101,_),(102,_)]⟩ rfl (ab.seq (ab.ite h12 rfl (fun _ h12=>?_) (fun _ h12=>?_))))
    ·refine ab.skip (Fin.ai ⟨[(3,_),(12,_),(13,_),(14,_),(18,_),(19,_),(20,_)],[(101,_),(102,_)]⟩ rfl (Fin.then ?_))
     obtain ⟨v14,h15,h12⟩:=aP h12
     refine ab.ca (v:=v14) (fun (up_10:cZ)=>⟨[(3,Pt 102 0),(12,.b (.one (.sl 1 (lists0.map (eL 1 (eL 1 eI)))))),(13,I (lists0.length:Int)),(14,I x_3),(18,.b (.one (.sl 1 (x_6.map (eL 1 eI))))),(19,I (x_6.length:Int)),(20,I x_8)],[(101,.mq up_10),(102,.aW 119 [.row 101])]⟩) (fun z=>z) ?_ ?_
     ·refine ab.block (ab.seq (ab.aa ?_))
      obtain ⟨x_11,e16,h15⟩:=aP h15
      refine Oc (an bY (aL e16) (aB (e:=(eL 1 eI)) e16) rfl rfl) (Oc (au aN rfl rfl) (Oc oa ?_))
      refine af.ak ⟨[(3,_),(7,.b (.one (.sl 1 (x_11.map eI)))),(12,_),(13,_),(14,_),(18,_),(19,_),(20,_)],[(101,_),(102,_)]⟩ rfl (ab.seq (ab.aa ?_))
      refine Oc om (Oc (av bR rfl (List.length_map _)) (Oc om ?_))
      refine af.ak ⟨[(3,_),(7,_),(12,_),(13,_),(14,_),(18,_),(19,_),(20,_),(24,.b (.one (.sl 1 (x_11.map eI)))),(25,I (x_11.length:Int)),(26,I 0)],[(101,_),(102,_)]⟩ rfl (ab.block ?_)
      obtain ⟨v17,h18,h15⟩:=aP h15
      refine ab.bZ h18 (eU fun (up_12:cZ) (x_13:Int)=>⟨[(3,Pt 102 0),(7,.b (.one (.sl 1 (x_11.map eI)))),(12,.b (.one (.sl 1 (lists0.map (eL 1 (eL 1 eI)))))),(13,I (lists0.length:Int)),(14,I x_3),(18,.b (.one (.sl 1 (x_6.map (eL 1 eI))))),(19,I (x_6.length:Int)),(20,I x_8),(24,.b (.one (.sl 1 (x_11.map eI)))),(25,I (x_11.length:Int)),(26,I x_13)],[(101,.mq up_12),(102,.aW 119 [.row 101])]⟩) [3,7,12,13,14,18,19,20,24,25,26] [101,102] rfl ?_
      rintro ⟨up_12,x_13⟩ o19 h20 hy21
      refine ab.seq (ab.aa ?_)
      refine Oc (aY rfl rfl) (af.ak ⟨[(3,_),(7,_),(12,_),(13,_),(14,_),(18,_),(19,_),(20,_),(24,_),(25,_),(26,_),(27,B (decide (x_13 < (x_11.length:Int))))],[(101,_),(102,_)]⟩ rfl (ab.seq (ab.ite h20 rfl (fun _ h20=>?_) (fun _ h20=>?_))))
      ·refine ab.skip (Fin.ai ⟨[(3,_),(7,_),(12,_),(13,_),(14,_),(18,_),(19,_),(20,_),(24,_),(25,_),(26,_)],[(101,_),(102,_)]⟩ rfl (Fin.then (ab.seq (ab.block (ab.seq (ab.aa ?_))))))
       obtain ⟨x_15,e22,h20⟩:=aP h20
       refine Oc (an aQ (aL e22) (aB (e:=eI) e22) rfl rfl) (Oc (au aD rfl rfl) (Oc oa ?_))
       refine af.ak ⟨[(3,_),(7,_),(9,I x_15),(12,_),(13,_),(14,_),(18,_),(19,_),(20,_),(24,_),(25,_),(26,_)],[(101,_),(102,_)]⟩ rfl ?_
       obtain ⟨x_16,e23,h20⟩:=aP h20
       obtain ⟨⟨x_17,x_18⟩,e24,h20⟩:=aP h20
       refine ab.fy mixed 5 [.b (.xa [.row 101]),.b (.one (.sl 1 (x_11.map eI))),.b (.cx [.i x_16]),I x_16,I x_15] [3,7,12,13,14,18,19,20,24,25,26] [101,102] (s':=⟨[(3,_),(7,_),(12,_),(13,_),(14,_),(18,_),(19,_),(20,_),(24,_),(25,_),(26,_)],[(101,.mq x_18),(102,_)]⟩) rfl ⟨fun _=>.p ((hU kf rfl rfl rfl rfl).tF rfl),fun _=>.p om,fun _=>.p (an aQ (aL e23) (aB (e:=eI) e23) rfl rfl),fun _=>.p (au aD rfl rfl),fun _=>.p om,trivial⟩ ⟨_,by exact .p (bL (own_a:=[(101,_)]) ((mw e24).sw 1 101) goes71 rfl ⟨rfl,trivial⟩ rfl rfl),rfl⟩ rfl (Fin.ar (Fin.ai ⟨[(3,_),(7,_),(12,_),(13,_),(14,_),(18,_),(19,_),(20,_),(24,_),(25,_),(26,_)],[(101,_),(102,_)]⟩ rfl (Fin.then (ab.aa ?_))))
       refine Oc (bh rfl rfl) (Oc om ?_)
       refine af.nil ?_
       exact Fin.bp [3,7,12,13,14,18,19,20,24,25,26] [101,102] (x_18,IntKind.i64.wrap (x_13 + 1)) (Option.some.inj h20) rfl
      ·refine ab.exit (Fin.aq ?_)
       obtain rfl:=hy21 _ (Option.some.inj h20).symm
       refine Fin.aq (Fin.aE (Fin.ar ?_))
       exact Fin.join [3,12,13,14,18,19,20] [101,102] up_12 (Option.some.inj h15) rfl
     ·rintro up_10 hv
      subst v14
      refine ab.aa (Oc (bh rfl rfl) (Oc om ?_))
      refine af.nil ?_
      exact Fin.bp [3,12,13,14,18,19,20] [101,102] (up_10,IntKind.i64.wrap (x_8 + 1)) (Option.some.inj h12) rfl
    ·refine ab.exit (Fin.aq ?_)
     obtain rfl:=hy13 _ (Option.some.inj h12).symm
     refine Fin.aq (Fin.aE (Fin.ar ?_))
     exact Fin.join [3,12,13,14] [101,102] up_7 (Option.some.inj h7) rfl
   ·rintro up_5 hv
    subst v6
    refine ab.aa (Oc (bh rfl rfl) (Oc om ?_))
    refine af.nil ?_
    exact Fin.bp [3,12,13,14] [101,102] (up_5,IntKind.i64.wrap (x_3 + 1)) (Option.some.inj h4) rfl
  ·refine ab.exit (Fin.aq ?_)
   obtain rfl:=hy5 _ (Option.some.inj h4).symm
   refine Fin.aq (Fin.aE ?_)
   exact Fin.join [3] [101,102] up_2 rfl rfl
 ·rintro up_1 hv
  subst v1
  refine ab.seq (ab.aa ?_)
  refine Oc ((hU kf rfl rfl rfl rfl).tF rfl) ?_
  obtain ⟨⟨x_19,x_20⟩,e25,h⟩:=aP h
  refine Oc (bL (own_a:=[(101,_)]) ((mu e25).sw 1 101) goes72 rfl ⟨rfl,trivial⟩ rfl rfl) (Oc oa ?_)
  refine af.ak ⟨[(2,.b (.one (.sl 1 (x_19.map (eL 1 eI)))))],[]⟩ rfl (ab.ret ?_)
  obtain rfl:=Option.some.inj h
  refine Fin.ai ⟨[(2,_)],[]⟩ rfl (Fin.aM [.one (.sl 1 (x_19.map (eL 1 eI)))] (.inl rfl) rfl (.cons (.tmp rfl) .nil) ⟨rfl,rfl⟩)
def dW (F:Nat) (home0:List Int) (sets0:List (List Int)):Option (List Task) :=
 Option.bind (iter F (eU fun alone_2 x_3=>if (decide (x_3 < (home0.length:Int))) = true then (Option.bind ((aV home0 x_3).bind fun x_6=>if (decide (0 ≤ x_6)) = true then ((eF alone_2 [[x_3]]).bind fun x_7=>some x_7) else (some alone_2)) (fun alone_5=>some (.inl (alone_5,IntKind.i64.wrap (x_3 + 1))))) else (some (.inr alone_2))) ([],0)) (fun alone_1=>Option.bind ((cT F [sets0,alone_1]).bind fun x_9=>iter F (eU fun out_10 x_11=>if (decide (x_11 < (x_9.length:Int))) = true then (Option.bind ((aV x_9 x_11).bind fun x_14=>Option.bind (iter F (eU fun regions_16 x_17=>if (decide (x_17 < (x_14.length:Int))) = true then ((aV x_14 x_17).bind fun x_19=>(aV home0 x_19).bind fun x_20=>(eF regions_16 [x_20]).bind fun x_21=>some (.inl (x_21,IntKind.i64.wrap (x_17 + 1)))) else (some (.inr regions_16))) ([],0)) (fun regions_15=>(dU F regions_15).bind fun x_22=>(fo F x_22).bind fun x_23=>(aV x_23 0).bind fun x_24=>(sv x_23 1).bind fun x_25=>(eF out_10 [(⟨x_24,x_14,x_25⟩:Task)]).bind fun x_26=>some x_26)) (fun out_13=>some (.inl (out_13,IntKind.i64.wrap (x_11 + 1))))) else (some (.inr out_10))) ([],0)) (fun out_8=>some out_8))
theorem mM (kr0:Nat) {F:Nat} {home0:List Int} {sets0:List (List Int)} {r:(List Task)} (h:dW F home0 sets0 = some r):aA Try.prog [] 70 [] [.one (.sl 1 (home0.map eI)),.one (.sl 1 (sets0.map (eL 1 eI)))] (Is [(kr0,.row 59 3 (r.map ao))] (.b (.row kr0))):=by
 unfold dW at h
 refine aA.intro 68 Try.func70 Try.ntmps70 rfl (by simp) fun E=>?_
 show ab _ E ⟨68,[],[],[]⟩ _ ⟨[(0,.b (.one (.sl 1 (home0.map eI)))),(1,.b (.one (.sl 1 (sets0.map (eL 1 eI)))))],[]⟩ _
 refine ab.seq (ab.aa ?_)
 refine Oc oa (af.ak ⟨[(0,.b (.one (.sl 1 (home0.map eI)))),(1,.b (.one (.sl 1 (sets0.map (eL 1 eI)))))],[]⟩ rfl (ab.seq (ab.aa ?_)))
 refine Oc oa (af.ak ⟨[(0,_),(1,_),(5,.b (.one (.nil)))],[]⟩ rfl ?_)
 obtain ⟨v1,h2,h⟩:=aP h
 refine ab.ca (v:=v1) (fun (alone_1:List (List Int))=>⟨[(0,.b (.one (.sl 1 (home0.map eI)))),(1,.b (.one (.sl 1 (sets0.map (eL 1 eI))))),(5,.b (.row 103))],[(103,.row 22 1 (alone_1.map (eL 1 eI)))]⟩) (fun z=>z) ?_ ?_
 ·refine ab.seq (ab.aa ?_)
  refine Oc om (Oc (av bR rfl (List.length_map _)) (Oc om ?_))
  refine af.ak ⟨[(0,_),(1,_),(5,_),(14,.b (.one (.sl 1 (home0.map eI)))),(15,I (home0.length:Int)),(16,I 0)],[]⟩ rfl (ab.block (ab.dc 5 103 1 22 rfl (by decide) rfl (ab.bZ h2 (eU fun (alone_2:List (List Int)) (x_3:Int)=>⟨[(0,.b (.one (.sl 1 (home0.map eI)))),(1,.b (.one (.sl 1 (sets0.map (eL 1 eI))))),(5,.b (.row 103)),(14,.b (.one (.sl 1 (home0.map eI)))),(15,I (home0.length:Int)),(16,I x_3)],[(103,.row 22 1 (alone_2.map (eL 1 eI)))]⟩) [0,1,5,14,15,16] [103] rfl ?_)))
  rintro ⟨alone_2,x_3⟩ o3 h4 hy5
  refine ab.seq (ab.aa ?_)
  refine Oc (aY rfl rfl) (af.ak ⟨[(0,_),(1,_),(5,_),(14,_),(15,_),(16,_),(17,B (decide (x_3 < (home0.length:Int))))],[(103,_)]⟩ rfl (ab.seq (ab.ite h4 rfl (fun _ h4=>?_) (fun _ h4=>?_))))
  ·refine ab.skip (Fin.ai ⟨[(0,_),(1,_),(5,_),(14,_),(15,_),(16,_)],[(103,_)]⟩ rfl (Fin.then ?_))
   obtain ⟨v6,h7,h4⟩:=aP h4
   refine ab.ca (v:=v6) (fun (alone_5:List (List Int))=>⟨[(0,.b (.one (.sl 1 (home0.map eI)))),(1,.b (.one (.sl 1 (sets0.map (eL 1 eI))))),(5,.b (.row 103)),(14,.b (.one (.sl 1 (home0.map eI)))),(15,I (home0.length:Int)),(16,I x_3)],[(103,.row 22 1 (alone_5.map (eL 1 eI)))]⟩) (fun z=>z) ?_ ?_
   ·refine ab.block (ab.seq (ab.aa ?_))
    refine Oc om ?_
    obtain ⟨x_6,e8,h7⟩:=aP h7
    refine Oc (an aQ (aL e8) (aB (e:=eI) e8) rfl rfl) (Oc (au aD rfl rfl) (Oc oa (Oc oa ?_)))
    refine af.ak ⟨[(0,_),(1,_),(5,_),(6,I x_3),(7,I x_6),(14,_),(15,_),(16,_)],[(103,_)]⟩ rfl (ab.seq (ab.aa ?_))
    refine Oc om (Oc (gk rfl rfl) ?_)
    refine af.ak ⟨[(0,_),(1,_),(5,_),(6,_),(14,_),(15,_),(16,_),(22,B (decide (0 ≤ x_6)))],[(103,_)]⟩ rfl (ab.ite h7 rfl (fun _ h7=>?_) (fun _ h7=>?_))
    ·refine ab.aa (Oc om (Oc om (Oc (aO (k:=104) (es:=[x_3].map eI) aQ rfl rfl (bc fun _=>rfl) rfl (by decide) (by decide) rfl) ?_)))
     refine af.bg 104 rfl (af.ai ⟨[(0,.b (.one (.sl 1 (home0.map eI)))),(1,.b (.one (.sl 1 (sets0.map (eL 1 eI))))),(5,.b (.row 103)),(14,.b (.one (.sl 1 (home0.map eI)))),(15,I (home0.length:Int)),(16,I x_3),(23,.b (.row 103)),(25,.b (.one (.sl 1 ([x_3].map eI))))],[(103,.row 22 1 (alone_2.map (eL 1 eI)))]⟩ rfl (Oc (aO (k:=105) (es:=[[x_3]].map (eL 1 eI)) bY rfl rfl (bc fun _=>rfl) rfl (by decide) (by decide) rfl) ?_))
     obtain ⟨x_7,e9,h7⟩:=aP h7
     refine Oc (b4 bY (ec e9) (dZ e9) rfl rfl rfl rfl (cf e9) rfl) (Oc oa ?_)
     refine af.nil (Fin.ar ?_)
     exact Fin.join [0,1,5,14,15,16] [103] x_7 (Option.some.inj h7) rfl
    ·refine ab.skip (Fin.ar ?_)
     exact Fin.join [0,1,5,14,15,16] [103] alone_2 (Option.some.inj h7) rfl
   ·rintro alone_5 hv
    subst v6
    refine ab.aa (Oc (bh rfl rfl) (Oc om ?_))
    refine af.nil ?_
    exact Fin.bp [0,1,5,14,15,16] [103] (alone_5,IntKind.i64.wrap (x_3 + 1)) (Option.some.inj h4) rfl
  ·refine ab.exit (Fin.aq ?_)
   obtain rfl:=hy5 _ (Option.some.inj h4).symm
   refine Fin.aq (Fin.aE ?_)
   exact Fin.join [0,1,5] [103] alone_2 rfl rfl
 ·rintro alone_1 hv
  subst v1
  refine ab.seq (ab.aa ?_)
  refine Oc oa (af.ak ⟨[(0,_),(1,_),(5,_),(8,.b (.one (.nil)))],[(103,_)]⟩ rfl ?_)
  obtain ⟨v10,h11,h⟩:=aP h
  refine ab.ca (v:=v10) (fun (out_8:List Task)=>⟨[(8,.b (.row 111))],[(111,.row 59 3 (out_8.map ao))]⟩) (fun z=>z) ?_ ?_
  ·refine ab.seq (ab.aa ?_)
   refine Oc om (Oc om ?_)
   refine af.bg 103 rfl (Oc (aO (k:=106) (es:=[sets0,alone_1].map (eL 1 (eL 1 eI))) o7 rfl rfl (bc fun _=>rfl) rfl (by decide) (by decide) rfl) (af.bg 106 rfl (af.ai ⟨[(0,.b (.one (.sl 1 (home0.map eI)))),(8,.b (.one (.nil))),(31,.b (.one (.sl 1 ([sets0,alone_1].map (eL 1 (eL 1 eI))))))],[]⟩ rfl ?_)))
   obtain ⟨x_9,e12,h11⟩:=aP h11
   refine Oc (az (eZ e12) qd rfl rfl) (Oc (av jr rfl (List.length_map _)) (Oc om ?_))
   refine af.ak ⟨[(0,_),(8,_),(32,.b (.one (.sl 1 (x_9.map (eL 1 eI))))),(33,I (x_9.length:Int)),(34,I 0)],[]⟩ rfl (ab.block (ab.dc 8 111 3 59 rfl (by decide) rfl (ab.bZ h11 (eU fun (out_10:List Task) (x_11:Int)=>⟨[(0,.b (.one (.sl 1 (home0.map eI)))),(8,.b (.row 111)),(32,.b (.one (.sl 1 (x_9.map (eL 1 eI))))),(33,I (x_9.length:Int)),(34,I x_11)],[(111,.row 59 3 (out_10.map ao))]⟩) [0,8,32,33,34] [111] rfl ?_)))
   rintro ⟨out_10,x_11⟩ o13 h14 hy15
   refine ab.seq (ab.aa ?_)
   refine Oc (aY rfl rfl) (af.ak ⟨[(0,_),(8,_),(32,_),(33,_),(34,_),(35,B (decide (x_11 < (x_9.length:Int))))],[(111,_)]⟩ rfl (ab.seq (ab.ite h14 rfl (fun _ h14=>?_) (fun _ h14=>?_))))
   ·refine ab.skip (Fin.ai ⟨[(0,_),(8,_),(32,_),(33,_),(34,_)],[(111,_)]⟩ rfl (Fin.then ?_))
    obtain ⟨v16,h17,h14⟩:=aP h14
    refine ab.ca (v:=v16) (fun (out_13:List Task)=>⟨[(0,.b (.one (.sl 1 (home0.map eI)))),(8,.b (.row 111)),(32,.b (.one (.sl 1 (x_9.map (eL 1 eI))))),(33,I (x_9.length:Int)),(34,I x_11)],[(111,.row 59 3 (out_13.map ao))]⟩) (fun z=>z) ?_ ?_
    ·refine ab.block (ab.seq (ab.aa ?_))
     obtain ⟨x_14,e18,h17⟩:=aP h17
     refine Oc (an bY (aL e18) (aB (e:=(eL 1 eI)) e18) rfl rfl) (Oc (au aN rfl rfl) (Oc oa ?_))
     refine af.ak ⟨[(0,_),(8,_),(10,.b (.one (.sl 1 (x_14.map eI)))),(32,_),(33,_),(34,_)],[(111,_)]⟩ rfl (ab.seq (ab.aa ?_))
     refine Oc oa (af.ak ⟨[(0,_),(8,_),(10,_),(11,.b (.one (.nil))),(32,_),(33,_),(34,_)],[(111,_)]⟩ rfl ?_)
     obtain ⟨v19,h20,h17⟩:=aP h17
     refine ab.ca (v:=v19) (fun (regions_15:List Int)=>⟨[(0,.b (.one (.sl 1 (home0.map eI)))),(8,.b (.row 111)),(10,.b (.one (.sl 1 (x_14.map eI)))),(11,.b (.row 113)),(32,.b (.one (.sl 1 (x_9.map (eL 1 eI))))),(33,I (x_9.length:Int)),(34,I x_11)],[(111,.row 59 3 (out_10.map ao)),(113,.row 3 1 (regions_15.map eI))]⟩) (fun z=>z) ?_ ?_
     ·refine ab.seq (ab.aa ?_)
      refine Oc om (Oc (av bR rfl (List.length_map _)) (Oc om ?_))
      refine af.ak ⟨[(0,_),(8,_),(10,_),(11,_),(32,_),(33,_),(34,_),(38,.b (.one (.sl 1 (x_14.map eI)))),(39,I (x_14.length:Int)),(40,I 0)],[(111,_)]⟩ rfl (ab.block (ab.dc 11 113 1 3 rfl (by decide) rfl (ab.bZ h20 (eU fun (regions_16:List Int) (x_17:Int)=>⟨[(0,.b (.one (.sl 1 (home0.map eI)))),(8,.b (.row 111)),(10,.b (.one (.sl 1 (x_14.map eI)))),(11,.b (.row 113)),(32,.b (.one (.sl 1 (x_9.map (eL 1 eI))))),(33,I (x_9.length:Int)),(34,I x_11),(38,.b (.one (.sl 1 (x_14.map eI)))),(39,I (x_14.length:Int)),(40,I x_17)],[(111,.row 59 3 (out_10.map ao)),(113,.row 3 1 (regions_16.map eI))]⟩) [0,8,10,11,32,33,34,38,39,40] [111,113] rfl ?_)))
      rintro ⟨regions_16,x_17⟩ o21 h22 hy23
      refine ab.seq (ab.aa ?_)
      refine Oc (aY rfl rfl) (af.ak ⟨[(0,_),(8,_),(10,_),(11,_),(32,_),(33,_),(34,_),(38,_),(39,_),(40,_),(41,B (decide (x_17 < (x_14.length:Int))))],[(111,_),(113,_)]⟩ rfl (ab.seq (ab.ite h22 rfl (fun _ h22=>?_) (fun _ h22=>?_))))
      ·refine ab.skip (Fin.ai ⟨[(0,_),(8,_),(10,_),(11,_),(32,_),(33,_),(34,_),(38,_),(39,_),(40,_)],[(111,_),(113,_)]⟩ rfl (Fin.then (ab.seq (ab.block (ab.seq (ab.aa ?_))))))
       obtain ⟨x_19,e24,h22⟩:=aP h22
       refine Oc (an aQ (aL e24) (aB (e:=eI) e24) rfl rfl) (Oc (au aD rfl rfl) (Oc oa ?_))
       refine af.ak ⟨[(0,_),(8,_),(10,_),(11,_),(13,I x_19),(32,_),(33,_),(34,_),(38,_),(39,_),(40,_)],[(111,_),(113,_)]⟩ rfl (ab.aa (Oc om (Oc om (Oc om ?_))))
       obtain ⟨x_20,e25,h22⟩:=aP h22
       refine Oc (an aQ (aL e25) (aB (e:=eI) e25) rfl rfl) (Oc (au aD rfl rfl) (Oc (aO (k:=114) (es:=[x_20].map eI) aQ rfl rfl (bc fun _=>rfl) rfl (by decide) (by decide) rfl) ?_))
       obtain ⟨x_21,e26,h22⟩:=aP h22
       refine Oc (b4 aQ (ec e26) (dZ e26) rfl rfl rfl rfl (cf e26) rfl) (Oc oa ?_)
       refine af.nil (Fin.ar (Fin.ai ⟨[(0,_),(8,_),(10,_),(11,_),(32,_),(33,_),(34,_),(38,_),(39,_),(40,_)],[(111,_),(113,.row 3 1 (x_21.map eI))]⟩ rfl (Fin.then (ab.aa ?_))))
       refine Oc (bh rfl rfl) (Oc om ?_)
       refine af.nil ?_
       exact Fin.bp [0,8,10,11,32,33,34,38,39,40] [111,113] (x_21,IntKind.i64.wrap (x_17 + 1)) (Option.some.inj h22) rfl
      ·refine ab.exit (Fin.aq ?_)
       obtain rfl:=hy23 _ (Option.some.inj h22).symm
       refine Fin.aq (Fin.aE ?_)
       exact Fin.join [0,8,10,11,32,33,34] [111,113] regions_16 rfl rfl
     ·rintro regions_15 hv
      subst v19
      refine ab.seq (ab.aa ?_)
      refine Oc om (af.toF 113 rfl ?_)
      obtain ⟨x_22,e27,h17⟩:=aP h17
      refine Oc (bL (own_a:=[(113,_)]) ((mJ e27).sw 1 113) xQ rfl ⟨rfl,trivial⟩ rfl rfl) (af.unF 113 rfl (af.ak ⟨[(0,_),(8,_),(10,_),(11,_),(32,_),(33,_),(34,_)],[(111,_),(113,.row 3 1 (x_22.map eI))]⟩ rfl (ab.seq (ab.aa ?_))))
      refine Oc om ?_
      obtain ⟨x_23,e28,h17⟩:=aP h17
      refine Oc (bL (own_a:=[(113,_)]) ((oE e28).sw 1 113) goes92 rfl ⟨rfl,trivial⟩ rfl rfl) (Oc oa ?_)
      refine af.ak ⟨[(0,.b (.one (.sl 1 (home0.map eI)))),(8,.b (.row 111)),(10,.b (.one (.sl 1 (x_14.map eI)))),(11,.b (.row 113)),(32,.b (.one (.sl 1 (x_9.map (eL 1 eI))))),(33,I (x_9.length:Int)),(34,I x_11)],[(111,.row 59 3 (out_10.map ao)),(113,.row 3 1 (x_23.map eI))]⟩ rfl (ab.bg 113 rfl (ab.ai ⟨[(0,_),(8,_),(10,_),(11,.b (.one (.sl 1 (x_23.map eI)))),(32,_),(33,_),(34,_)],[(111,_)]⟩ rfl ?_))
      obtain ⟨x_24,e29,h17⟩:=aP h17
      obtain ⟨x_25,e30,h17⟩:=aP h17
      obtain ⟨x_26,e31,h17⟩:=aP h17
      refine ab.fy mixed 9 [.b (.row 111),.b (.one (.sl 1 (x_23.map eI))),.b (.cx [.i x_24]),I x_24,.b (.one (.sl 1 (x_14.map eI))),.b (.one (.sl 1 (x_23.map eI))),.b (.one (.sl 1 (x_25.map eI))),.b (.agg [.i x_24,.sl 1 (x_14.map eI),.sl 1 (x_25.map eI)]),.b (.one (.sl 3 ([(⟨x_24,x_14,x_25⟩:Task)].map ao)))] [0,8,32,33,34] [111] (s':=⟨[(0,_),(8,_),(32,_),(33,_),(34,_)],[(111,.row 59 3 (x_26.map ao))]⟩) rfl ⟨fun _=>.p om,fun _=>.p om,fun _=>.p (an aQ (aL e29) (aB (e:=eI) e29) rfl rfl),fun _=>.p (au aD rfl rfl),fun _=>.p om,fun _=>.p om,fun _=>.p (uq aQ e30 rfl rfl),fun _=>.p (cc kO rfl rfl),fun _=>.p (cg (es:=[(⟨x_24,x_14,x_25⟩:Task)].map ao) fF rfl rfl (bc fun _=>rfl) rfl (by decide) (by decide)),trivial⟩ ⟨_,by exact .p (gq fF (ec e31) (dZ e31) rfl rfl rfl (cf e31) rfl),⟨_,by exact .p oa,rfl⟩⟩ rfl (Fin.ar ?_)
      exact Fin.join [0,8,32,33,34] [111] x_26 (Option.some.inj h17) rfl
    ·rintro out_13 hv
     subst v16
     refine ab.aa (Oc (bh rfl rfl) (Oc om ?_))
     refine af.nil ?_
     exact Fin.bp [0,8,32,33,34] [111] (out_13,IntKind.i64.wrap (x_11 + 1)) (Option.some.inj h14) rfl
   ·refine ab.exit (Fin.aq ?_)
    obtain rfl:=hy15 _ (Option.some.inj h14).symm
    refine Fin.aq (Fin.aE ?_)
    exact Fin.join [8] [111] out_10 rfl rfl
  ·rintro out_8 hv
   subst v10
   refine ab.seq (ab.aa ?_)
   refine Oc om (Oc oa ?_)
   refine af.ak ⟨[(4,.b (.row 111))],[(111,_)]⟩ rfl (ab.ret ?_)
   obtain rfl:=Option.some.inj h
   refine Fin.ai ⟨[(4,_)],[(111,_)]⟩ rfl (Fin.dD 111 kr0 [.row 111] (.inl rfl) rfl (.cons (.tmp rfl) .nil) rfl rfl rfl rfl ⟨rfl,rfl⟩)
def fX (F:Nat) (home0:List Int) (sets0:List (List Int)):Option ((List Task) × Int) :=
 (cU F home0 sets0).bind fun x_1=>if (!x_1) = true then (some ([],1)) else ((dW F home0 sets0).bind fun x_2=>some (x_2,0))
theorem qB (kr0:Nat) {F:Nat} {home0:List Int} {sets0:List (List Int)} {r:(List Task) × Int} (h:fX F home0 sets0 = some r):aA Try.prog [] 26 [] [.one (.sl 1 (home0.map eI)),.one (.sl 1 (sets0.map (eL 1 eI)))] (Is [(kr0,.row 59 3 (r.1.map ao))] (.gR [.row kr0,.one (.i r.2)])):=by
 unfold fX at h
 refine aA.intro 13 Try.func26 Try.ntmps26 rfl (by simp) fun E=>?_
 show ab _ E ⟨13,[],[],[]⟩ _ ⟨[(0,.b (.one (.sl 1 (home0.map eI)))),(1,.b (.one (.sl 1 (sets0.map (eL 1 eI)))))],[]⟩ _
 refine ab.seq (ab.aa ?_)
 refine Oc oa (Oc oa ?_)
 refine af.ak ⟨[(0,.b (.one (.sl 1 (home0.map eI)))),(1,.b (.one (.sl 1 (sets0.map (eL 1 eI)))))],[]⟩ rfl (ab.seq (ab.seq (ab.aa ?_)))
 refine Oc om (Oc om ?_)
 obtain ⟨x_1,e1,h⟩:=aP h
 refine Oc (az (gg e1) tf rfl rfl) (Oc (cL rfl) ?_)
 refine af.ak ⟨[(0,_),(1,_),(9,B (!x_1))],[]⟩ rfl (ab.ite h rfl (fun _ h=>?_) (fun _ h=>?_))
 ·refine ab.seq (ab.aa ?_)
  refine Oc oa (Oc oa ?_)
  refine af.ak ⟨[(4,.b (.one (.nil))),(5,I 1)],[]⟩ rfl (ab.ret (Fin.aw ?_))
  obtain rfl:=Option.some.inj h
  refine Fin.ai ⟨[(4,_),(5,_)],[]⟩ rfl (Fin.dc 4 101 3 59 rfl (by decide) rfl (Fin.dD 101 kr0 [.row 101,.one (.i 1)] (.inl rfl) rfl (.cons (.tmp rfl) (.cons (.tmp rfl) .nil)) rfl rfl rfl rfl ⟨rfl,rfl⟩))
 ·refine ab.skip (Fin.ai ⟨[(0,_),(1,_)],[]⟩ rfl (Fin.then (ab.seq (ab.aa ?_))))
  refine Oc om (Oc om ?_)
  obtain ⟨x_2,e2,h⟩:=aP h
  refine Oc (bL (mM 102 e2) xU rfl trivial rfl rfl) (Oc oa (Oc oa ?_))
  refine af.ak ⟨[(4,.b (.row 102)),(5,I 0)],[(102,.row 59 3 (x_2.map ao))]⟩ rfl (ab.ret ?_)
  obtain rfl:=Option.some.inj h
  refine Fin.ai ⟨[(4,_),(5,_)],[(102,_)]⟩ rfl (Fin.dD 102 kr0 [.row 102,.one (.i 0)] (.inl rfl) rfl (.cons (.tmp rfl) (.cons (.tmp rfl) .nil)) rfl rfl rfl rfl ⟨rfl,rfl⟩)
def eO (F:Nat) (r0:Int) (v0c:Int):Option Bool :=
 some ((decide (r0 < (-1))) || (decide (v0c ≤ r0)))
theorem oI {F:Nat} {r0:Int} {v0c:Int} {r:Bool} (h:eO F r0 v0c = some r):aA Try.prog [] 80 [(1,.box 3 [.i v0c])] [.one (.i r0),.ptr 1 0] (Is [(1,.box 3 [.i v0c])] (.b (.one (.bool r)))):=by
 unfold eO at h
 refine aA.intro 11 Try.func80 Try.ntmps80 rfl (by simp) fun E=>?_
 show ab _ E ⟨11,[1],[1],[]⟩ _ ⟨[(0,I r0),(1,Pt 1 0)],[(1,.box 3 [.i v0c])]⟩ _
 refine ab.seq (ab.aa ?_)
 refine Oc oa (af.ak ⟨[(0,I r0),(1,Pt 1 0)],[(1,.box 3 [.i v0c])]⟩ rfl (ab.seq (ab.aa ?_)))
 refine Oc om (Oc (aY rfl rfl) (Oc om ?_))
 refine bF (!(decide (r0 < (-1)))) [] (fun g1=>trivial) (fun g1=>om) (bF (!(decide (r0 < (-1)))) [] (fun g2=>by exact trivial) (fun g2=>ag aD rfl rfl rfl) (bF (!(decide (r0 < (-1)))) [7,8] (fun g3=>by exact ⟨g3,g3,trivial⟩) (fun g3=>gk rfl rfl) (Oc (aF (fun e=>by first | (rw [e]; rfl) | (simp only at e; rw [e]; rfl)) rfl rfl rfl rfl) (Oc oa ?_))))
 refine af.ak ⟨[(3,B ((decide (r0 < (-1))) || (decide (v0c ≤ r0))))],[(1,_)]⟩ rfl (ab.ret ?_)
 obtain rfl:=Option.some.inj h
 refine Fin.ai ⟨[(3,_)],[(1,_)]⟩ rfl ?_
 exact Fin.result [.one (.bool ((decide (r0 < (-1))) || (decide (v0c ≤ r0))))] (.inl rfl) rfl (.cons (.tmp rfl) .nil) ⟨rfl,rfl⟩
def dP (F:Nat) (s0:List Int) (f0v0:Int):Option Int :=
 Option.bind (iter F (fun x_1=>if (decide (x_1 < (s0.length:Int))) = true then ((aV s0 x_1).bind fun x_2=>(eO F x_2 f0v0).bind fun x_3=>if x_3 = true then (some (.inr (.inr x_1))) else (some (.inl (IntKind.i64.wrap (x_1 + 1))))) else (some (.inr (.inl ())))) 0) (bG (fun _=>some (-1)) (fun y=>some y))
theorem nA {F:Nat} {s0:List Int} {f0v0:Int} {r:Int} (h:dP F s0 f0v0 = some r):aA Try.prog [] 94 [(1,.box 3 [.i f0v0])] [.one (.sl 1 (s0.map eI)),.iK 80 [] [.ptr 1 0]] (Is [(1,.box 3 [.i f0v0])] (.b (.one (.i r)))):=by
 unfold dP at h
 refine aA.intro 19 Try.func94 Try.ntmps94 rfl (by simp) fun E=>?_
 show ab _ E ⟨19,[1],[1],[]⟩ _ ⟨[(0,.b (.one (.sl 1 (s0.map eI)))),(1,.b (.iK 80 [] [.ptr 1 0]))],[(1,.box 3 [.i f0v0])]⟩ _
 refine ab.seq (ab.aa ?_)
 refine Oc oa (af.ak ⟨[(0,.b (.one (.sl 1 (s0.map eI)))),(1,.b (.iK 80 [] [.ptr 1 0]))],[(1,.box 3 [.i f0v0])]⟩ rfl ?_)
 obtain ⟨v1,h2,h⟩:=aP h
 refine ab.ca (v:=v1) (fun (_:Unit)=>⟨[],[(1,.box 3 [.i f0v0])]⟩) (fun z=>.inl z) ?_ ?_
 ·refine ab.seq (ab.aa ?_)
  refine Oc om (Oc (av bR rfl (List.length_map _)) (Oc om ?_))
  refine af.ak ⟨[(0,_),(1,_),(7,I (s0.length:Int)),(8,I 0)],[(1,_)]⟩ rfl (ab.block (ab.bZ h2 (fun (x_1:Int)=>⟨[(0,.b (.one (.sl 1 (s0.map eI)))),(1,.b (.iK 80 [] [.ptr 1 0])),(7,I (s0.length:Int)),(8,I x_1)],[(1,.box 3 [.i f0v0])]⟩) [0,1,7,8] [1] rfl ?_))
  rintro x_1 o3 h4 hy5
  refine ab.seq (ab.aa ?_)
  refine Oc (aY rfl rfl) (af.ak ⟨[(0,_),(1,_),(7,_),(8,_),(9,B (decide (x_1 < (s0.length:Int))))],[(1,_)]⟩ rfl (ab.seq (ab.ite h4 rfl (fun _ h4=>?_) (fun _ h4=>?_))))
  ·refine ab.skip (Fin.ai ⟨[(0,_),(1,_),(7,_),(8,_)],[(1,_)]⟩ rfl (Fin.then (ab.seq (ab.block (ab.seq (ab.aa ?_))))))
   refine Oc om (Oc oa ?_)
   refine af.ak ⟨[(0,_),(1,_),(5,I x_1),(7,_),(8,_)],[(1,_)]⟩ rfl (ab.seq (ab.aa ?_))
   refine Oc om (Oc om (Oc om ?_))
   obtain ⟨x_2,e6,h4⟩:=aP h4
   refine Oc (an aQ (aL e6) (aB (e:=eI) e6) rfl rfl) (Oc (au aD rfl rfl) ?_)
   obtain ⟨x_3,e7,h4⟩:=aP h4
   refine Oc (kg (own_a:=[(1,_)]) (oI e7) goes80 rfl rfl rfl ⟨rfl,trivial⟩ rfl rfl) (af.ak ⟨[(0,_),(1,_),(5,_),(7,_),(8,_),(16,B x_3)],[(1,_)]⟩ rfl (ab.ite h4 rfl (fun _ h4=>?_) (fun _ h4=>?_)))
   ·refine ab.seq (ab.aa ?_)
    refine Oc om (Oc oa ?_)
    refine af.ak ⟨[(4,I x_1)],[(1,_)]⟩ rfl (ab.ret (Fin.aJ (Fin.aw ?_)))
    obtain rfl:=hy5 _ (Option.some.inj h4).symm
    refine Fin.aw (Fin.aJ (Fin.aw ?_))
    obtain rfl:=Option.some.inj h
    refine Fin.ai ⟨[(4,_)],[(1,_)]⟩ rfl ?_
    exact Fin.result [.one (.i x_1)] (.inl rfl) rfl (.cons (.tmp rfl) .nil) ⟨rfl,rfl⟩
   ·refine ab.skip (Fin.ar (Fin.ai ⟨[(0,_),(1,_),(7,_),(8,_)],[(1,_)]⟩ rfl (Fin.then (ab.aa ?_))))
    refine Oc (bh rfl rfl) (Oc om ?_)
    refine af.nil ?_
    exact Fin.bp [0,1,7,8] [1] (IntKind.i64.wrap (x_1 + 1)) (Option.some.inj h4) rfl
  ·refine ab.exit (Fin.aq ?_)
   obtain rfl:=hy5 _ (Option.some.inj h4).symm
   refine Fin.aq (Fin.aE ?_)
   exact Fin.join [] [1] () rfl rfl
 ·rintro _ hv
  subst v1
  refine ab.seq (ab.aa ?_)
  refine Oc oa (af.ak ⟨[(4,I (-1))],[(1,_)]⟩ rfl (ab.ret ?_))
  obtain rfl:=Option.some.inj h
  refine Fin.ai ⟨[(4,_)],[(1,_)]⟩ rfl ?_
  exact Fin.result [.one (.i (-1))] (.inl rfl) rfl (.cons (.tmp rfl) .nil) ⟨rfl,rfl⟩
def dk (F:Nat) (s0:List Int) (f0v0:Int):Option Bool :=
 (dP F s0 f0v0).bind fun x_1=>some (decide (0 ≤ x_1))
theorem ma {F:Nat} {s0:List Int} {f0v0:Int} {r:Bool} (h:dk F s0 f0v0 = some r):aA Try.prog [] 79 [(1,.box 3 [.i f0v0])] [.one (.sl 1 (s0.map eI)),.iK 80 [] [.ptr 1 0]] (Is [(1,.box 3 [.i f0v0])] (.b (.one (.bool r)))):=by
 unfold dk at h
 refine aA.intro 9 Try.func79 Try.ntmps79 rfl (by simp) fun E=>?_
 show ab _ E ⟨9,[1],[1],[]⟩ _ ⟨[(0,.b (.one (.sl 1 (s0.map eI)))),(1,.b (.iK 80 [] [.ptr 1 0]))],[(1,.box 3 [.i f0v0])]⟩ _
 refine ab.seq (ab.aa ?_)
 refine Oc oa (af.ak ⟨[(0,.b (.one (.sl 1 (s0.map eI)))),(1,.b (.iK 80 [] [.ptr 1 0]))],[(1,.box 3 [.i f0v0])]⟩ rfl (ab.seq (ab.aa ?_)))
 refine Oc om (Oc om ?_)
 obtain ⟨x_1,e1,h⟩:=aP h
 refine Oc (bL (own_a:=[(1,_)]) (nA e1) goes94 rfl ⟨rfl,trivial⟩ rfl rfl) (Oc (gk rfl rfl) (Oc oa ?_))
 refine af.ak ⟨[(4,B (decide (0 ≤ x_1)))],[(1,_)]⟩ rfl (ab.ret ?_)
 obtain rfl:=Option.some.inj h
 refine Fin.ai ⟨[(4,_)],[(1,_)]⟩ rfl ?_
 exact Fin.result [.one (.bool (decide (0 ≤ x_1)))] (.inl rfl) rfl (.cons (.tmp rfl) .nil) ⟨rfl,rfl⟩
def eW (F:Nat) (home0:List Int) (regions0:Int):Option Bool :=
 (aK (decide ((home0.length:Int) ≤ 401)) (dk F home0 regions0)).bind fun x_1=>some ((decide ((home0.length:Int) ≤ 401)) && (!x_1))
theorem p8 {F:Nat} {home0:List Int} {regions0:Int} {r:Bool} (h:eW F home0 regions0 = some r):aA Try.prog [] 41 [] [.one (.sl 1 (home0.map eI)),.one (.i regions0)] (Is [] (.b (.one (.bool r)))):=by
 unfold eW at h
 refine aA.intro 14 Try.func41 Try.ntmps41 rfl (by simp) fun E=>?_
 show ab _ E ⟨14,[],[],[]⟩ _ ⟨[(0,.b (.one (.sl 1 (home0.map eI)))),(1,I regions0)],[]⟩ _
 refine ab.seq (ab.aa ?_)
 refine Oc (tn (k:=101) rfl rfl) (Oc oa ?_)
 refine af.ak ⟨[(0,.b (.one (.sl 1 (home0.map eI)))),(3,Pt 101 0)],[(101,.box 3 [.i regions0])]⟩ rfl (ab.seq (ab.aa ?_))
 refine Oc om (Oc (av bR rfl (List.length_map _)) (Oc (uO rfl rfl) (Oc om ?_)))
 refine dt (decide ((home0.length:Int) ≤ 401)) [] (fun g1=>trivial) (fun g1=>om) (dt (decide ((home0.length:Int) ≤ 401)) [] (fun g2=>by exact trivial) (fun g2=>hZ rfl rfl) (af.ai ⟨[(8,B (decide ((home0.length:Int) ≤ 401))),(9,.opt (decide ((home0.length:Int) ≤ 401)) (.one (.sl 1 (home0.map eI)))),(10,.opt (decide ((home0.length:Int) ≤ 401)) (.iK 80 [] [.ptr 101 0]))],[(101,_)]⟩ rfl ?_))
 obtain ⟨x_1,e4,h⟩:=aP h
 refine dt (decide ((home0.length:Int) ≤ 401)) [9,10] (fun g3=>⟨g3,g3,trivial⟩) (fun g3=>bL (own_a:=[(101,_)]) ((ma (gc e4 g3)).sw 1 101) goes79 rfl ⟨rfl,trivial⟩ rfl rfl) (dt (decide ((home0.length:Int) ≤ 401)) [11] (fun g5=>⟨g5,trivial⟩) (fun g5=>cL rfl) (Oc (aT (fun e=>e) rfl rfl rfl rfl) (Oc oa ?_)))
 refine af.ak ⟨[(4,B ((decide ((home0.length:Int) ≤ 401)) && (!x_1)))],[]⟩ rfl (ab.ret ?_)
 obtain rfl:=Option.some.inj h
 refine Fin.ai ⟨[(4,_)],[]⟩ rfl (Fin.aM [.one (.bool ((decide ((home0.length:Int) ≤ 401)) && (!x_1)))] (.inl rfl) rfl (.cons (.tmp rfl) .nil) ⟨rfl,rfl⟩)
def cW (F:Nat) (l0:aI) (n0r:Round) (n0out:List aI):Option (List aI) :=
 (eF n0out [(⟨l0.Kind,n0r.Step,n0r.Me,l0.To,l0.Sets,l0.Bodies,l0.States⟩:aI)]).bind fun x_1=>some x_1
theorem ik {F:Nat} {l0:aI} {n0r:Round} {n0out:List aI} {r:(List aI)} (h:cW F l0 n0r n0out = some r):aA Try.prog [] 43 [(1,.aW 95 [.one (.i n0r.Me),.one (.i n0r.Regions),.one (.i n0r.Step),.one (.sl 1 (n0r.Home.map eI)),.one (.sl 1 (n0r.Heard.map eB)),.one (.sl 1 (n0r.Sets.map (eL 1 eI))),.one (.sl 1 (n0r.States.map eS)),.one (.sl 3 (n0r.Tasks.map ao)),.one (.sl 1 (n0r.Done.map eB)),.one (.sl 1 (n0r.Results.map eS)),.row 2]),(2,.row 42 7 (n0out.map ah))] [.ptr 1 0,.agg (ah l0)] (Is [(1,.aW 95 [.one (.i n0r.Me),.one (.i n0r.Regions),.one (.i n0r.Step),.one (.sl 1 (n0r.Home.map eI)),.one (.sl 1 (n0r.Heard.map eB)),.one (.sl 1 (n0r.Sets.map (eL 1 eI))),.one (.sl 1 (n0r.States.map eS)),.one (.sl 3 (n0r.Tasks.map ao)),.one (.sl 1 (n0r.Done.map eB)),.one (.sl 1 (n0r.Results.map eS)),.row 2]),(2,.row 42 7 (r.map ah))] (.gR [])):=by
 unfold cW at h
 refine aA.intro 26 Try.func43 Try.ntmps43 rfl (by simp) fun E=>?_
 show ab _ E ⟨26,[1],[1,2],[]⟩ _ ⟨[(0,Pt 1 0),(1,.b (.agg (ah l0)))],[(1,.aW 95 [.one (.i n0r.Me),.one (.i n0r.Regions),.one (.i n0r.Step),.one (.sl 1 (n0r.Home.map eI)),.one (.sl 1 (n0r.Heard.map eB)),.one (.sl 1 (n0r.Sets.map (eL 1 eI))),.one (.sl 1 (n0r.States.map eS)),.one (.sl 3 (n0r.Tasks.map ao)),.one (.sl 1 (n0r.Done.map eB)),.one (.sl 1 (n0r.Results.map eS)),.row 2]),(2,.row 42 7 (n0out.map ah))]⟩ _
 refine ab.seq (ab.aa ?_)
 refine Oc (fv (k:=101) rfl rfl) (af.ak ⟨[(0,Pt 1 0),(3,Pt 101 0)],[(1,.aW 95 [.one (.i n0r.Me),.one (.i n0r.Regions),.one (.i n0r.Step),.one (.sl 1 (n0r.Home.map eI)),.one (.sl 1 (n0r.Heard.map eB)),.one (.sl 1 (n0r.Sets.map (eL 1 eI))),.one (.sl 1 (n0r.States.map eS)),.one (.sl 3 (n0r.Tasks.map ao)),.one (.sl 1 (n0r.Done.map eB)),.one (.sl 1 (n0r.Results.map eS)),.row 2]),(2,.row 42 7 (n0out.map ah)),(101,.box 42 (ah l0))]⟩ rfl (ab.seq (ab.ff mixed [false,false,false,false,false,false,false,false,false,false,false,true,false,true] [Pt 1 0,Pt 1 0,Pt 1 0,Pt 1 2,I n0r.Step,Pt 1 0,Pt 1 0,Pt 1 0,Pt 1 0,I n0r.Me,Pt 101 1,B true,Pt 101 2,B true] [⟨[false,false,false,false,false,false,false,false,false,false,false,false,false,false],[(0,Pt 1 0),(3,Pt 101 0)],[(1,.aW 95 [.one (.i n0r.Me),.one (.i n0r.Regions),.one (.i n0r.Step),.one (.sl 1 (n0r.Home.map eI)),.one (.sl 1 (n0r.Heard.map eB)),.one (.sl 1 (n0r.Sets.map (eL 1 eI))),.one (.sl 1 (n0r.States.map eS)),.one (.sl 3 (n0r.Tasks.map ao)),.one (.sl 1 (n0r.Done.map eB)),.one (.sl 1 (n0r.Results.map eS)),.row 2]),(2,.row 42 7 (n0out.map ah)),(101,.box 42 (ah l0))],[true,true,true,true,true,true,true,true,true,true,true,true,true,true],[],[12,13]⟩,⟨[false,false,false,false,false,false,false,false,false,false,false,true,false,false],[(0,Pt 1 0),(3,Pt 101 0)],[(1,.aW 95 [.one (.i n0r.Me),.one (.i n0r.Regions),.one (.i n0r.Step),.one (.sl 1 (n0r.Home.map eI)),.one (.sl 1 (n0r.Heard.map eB)),.one (.sl 1 (n0r.Sets.map (eL 1 eI))),.one (.sl 1 (n0r.States.map eS)),.one (.sl 3 (n0r.Tasks.map ao)),.one (.sl 1 (n0r.Done.map eB)),.one (.sl 1 (n0r.Results.map eS)),.row 2]),(2,.row 42 7 (n0out.map ah)),(101,.box 42 [.i l0.Kind,.i n0r.Step,.i l0.From,.i l0.To,.sl 1 (l0.Sets.map (eL 1 eI)),.sl 1 (l0.Bodies.map eI),.sl 1 (l0.States.map eS)])],[true,true,true,true,true,true,true,true,true,true,true,true,true,true],[0,1,2,3,4,10,11],[]⟩,⟨[false,false,false,false,false,false,false,false,false,false,false,true,false,true],[(0,Pt 1 0),(3,Pt 101 0)],[(1,.aW 95 [.one (.i n0r.Me),.one (.i n0r.Regions),.one (.i n0r.Step),.one (.sl 1 (n0r.Home.map eI)),.one (.sl 1 (n0r.Heard.map eB)),.one (.sl 1 (n0r.Sets.map (eL 1 eI))),.one (.sl 1 (n0r.States.map eS)),.one (.sl 3 (n0r.Tasks.map ao)),.one (.sl 1 (n0r.Done.map eB)),.one (.sl 1 (n0r.Results.map eS)),.row 2]),(2,.row 42 7 (n0out.map ah)),(101,.box 42 [.i l0.Kind,.i n0r.Step,.i n0r.Me,.i l0.To,.sl 1 (l0.Sets.map (eL 1 eI)),.sl 1 (l0.Bodies.map eI),.sl 1 (l0.States.map eS)])],[true,true,true,true,true,true,true,true,true,true,true,true,true,true],[0,1,2,3,4,5,6,7,8,9,10,11,12,13],[]⟩] rfl (⟨by kernel_rfl,⟨⟨Pt 1 0,fun _=>rfl,fun _=>.p (by exact ax rfl)⟩,⟨Pt 1 0,fun _=>rfl,fun _=>.p (by exact aG rfl)⟩,⟨Pt 1 0,fun _=>rfl,fun _=>.p (by exact ae bm rfl rfl)⟩,⟨Pt 1 2,fun _=>rfl,fun _=>.p (by exact ae jL rfl rfl)⟩,⟨I n0r.Step,fun _=>rfl,fun _=>.p (by exact aX aD rfl rfl rfl)⟩,⟨Pt 1 0,fun _=>rfl,fun _=>.p (by exact ax rfl)⟩,⟨Pt 1 0,fun _=>rfl,fun _=>.p (by exact aG rfl)⟩,⟨Pt 1 0,fun _=>rfl,fun _=>.p (by exact ae bm rfl rfl)⟩,⟨Pt 1 0,fun _=>rfl,fun _=>.p (by exact ae cJ rfl rfl)⟩,⟨I n0r.Me,fun _=>rfl,fun _=>.p (by exact aX aD rfl rfl rfl)⟩,⟨Pt 101 1,fun _=>rfl,fun _=>.p (by exact ae mE rfl rfl)⟩,⟨_,[],.b (.one .any),rfl,(fun e=>by simp at e),rfl,rfl,fun _=>.jG [1,2,101] (by exact .p (by exact ew aD rfl rfl rfl (Nat.le_of_ble_eq_true rfl) rfl)) (by exact rfl)⟩,trivial,trivial,trivial⟩,⟨by kernel_rfl,⟨trivial,trivial,trivial,trivial,trivial,⟨Pt 1 0,fun _=>rfl,fun _=>.p (by exact ax rfl)⟩,⟨Pt 1 0,fun _=>rfl,fun _=>.p (by exact aG rfl)⟩,⟨Pt 1 0,fun _=>rfl,fun _=>.p (by exact ae bm rfl rfl)⟩,⟨Pt 1 0,fun _=>rfl,fun _=>.p (by exact ae cJ rfl rfl)⟩,⟨I n0r.Me,fun _=>rfl,fun _=>.p (by exact aX aD rfl rfl rfl)⟩,trivial,trivial,⟨Pt 101 2,fun _=>rfl,fun _=>.p (by exact ae dR rfl rfl)⟩,⟨_,[],.b (.one .any),rfl,(fun e=>by simp at e),rfl,rfl,fun _=>.jG [1,2,101] (by exact .p (by exact ew aD rfl rfl rfl (Nat.le_of_ble_eq_true rfl) rfl)) (by exact rfl)⟩,trivial⟩,⟨by kernel_rfl,⟨trivial,trivial,trivial,trivial,trivial,trivial,trivial,trivial,trivial,trivial,trivial,trivial,trivial,trivial,trivial⟩,trivial⟩⟩⟩) rfl rfl rfl [0,3] [1,2,101] (s':=⟨[(0,_),(3,_)],[(1,_),(2,_),(101,.box 42 [.i l0.Kind,.i n0r.Step,.i n0r.Me,.i l0.To,.sl 1 (l0.Sets.map (eL 1 eI)),.sl 1 (l0.Bodies.map eI),.sl 1 (l0.States.map eS)])]⟩) rfl ?_)))
 refine ab.ai ⟨[(0,_),(3,_)],[(1,_),(2,_),(101,_)]⟩ rfl ?_
 obtain ⟨x_1,e1,h⟩:=aP h
 refine ab.nJ mixed [false,false,false,false,false,false,false,true,false,false,true] [Pt 1 0,Pt 1 0,Pt 1 0,Pt 1 10,.b (.row 2),.b (.agg [.i l0.Kind,.i n0r.Step,.i n0r.Me,.i l0.To,.sl 1 (l0.Sets.map (eL 1 eI)),.sl 1 (l0.Bodies.map eI),.sl 1 (l0.States.map eS)]),.b (.one (.sl 7 ([(⟨l0.Kind,n0r.Step,n0r.Me,l0.To,l0.Sets,l0.Bodies,l0.States⟩:aI)].map ah))),.b (.row 2),Pt 1 0,Pt 1 10,B true] [⟨[false,false,false,false,false,false,false,false,false,false,false],[(0,Pt 1 0),(3,Pt 101 0)],[(1,.aW 95 [.one (.i n0r.Me),.one (.i n0r.Regions),.one (.i n0r.Step),.one (.sl 1 (n0r.Home.map eI)),.one (.sl 1 (n0r.Heard.map eB)),.one (.sl 1 (n0r.Sets.map (eL 1 eI))),.one (.sl 1 (n0r.States.map eS)),.one (.sl 3 (n0r.Tasks.map ao)),.one (.sl 1 (n0r.Done.map eB)),.one (.sl 1 (n0r.Results.map eS)),.row 2]),(2,.row 42 7 (n0out.map ah)),(101,.box 42 [.i l0.Kind,.i n0r.Step,.i n0r.Me,.i l0.To,.sl 1 (l0.Sets.map (eL 1 eI)),.sl 1 (l0.Bodies.map eI),.sl 1 (l0.States.map eS)])],[true,true,true,true,true,true,true,true,true,true,true],[],[8,9,10]⟩,⟨[false,false,false,false,false,false,false,true,false,false,false],[(0,Pt 1 0),(3,Pt 101 0)],[(1,.aW 95 [.one (.i n0r.Me),.one (.i n0r.Regions),.one (.i n0r.Step),.one (.sl 1 (n0r.Home.map eI)),.one (.sl 1 (n0r.Heard.map eB)),.one (.sl 1 (n0r.Sets.map (eL 1 eI))),.one (.sl 1 (n0r.States.map eS)),.one (.sl 3 (n0r.Tasks.map ao)),.one (.sl 1 (n0r.Done.map eB)),.one (.sl 1 (n0r.Results.map eS)),.one (.any)]),(2,.row 42 7 (x_1.map ah)),(101,.box 42 [.i l0.Kind,.i n0r.Step,.i n0r.Me,.i l0.To,.sl 1 (l0.Sets.map (eL 1 eI)),.sl 1 (l0.Bodies.map eI),.sl 1 (l0.States.map eS)])],[true,true,true,true,false,true,true,true,true,true,true],[1,2,3,4,5,6,7],[]⟩,⟨[false,false,false,false,false,false,false,true,false,false,true],[(0,Pt 1 0),(3,Pt 101 0)],[(1,.aW 95 [.one (.i n0r.Me),.one (.i n0r.Regions),.one (.i n0r.Step),.one (.sl 1 (n0r.Home.map eI)),.one (.sl 1 (n0r.Heard.map eB)),.one (.sl 1 (n0r.Sets.map (eL 1 eI))),.one (.sl 1 (n0r.States.map eS)),.one (.sl 3 (n0r.Tasks.map ao)),.one (.sl 1 (n0r.Done.map eB)),.one (.sl 1 (n0r.Results.map eS)),.row 2]),(2,.row 42 7 (x_1.map ah)),(101,.box 42 [.i l0.Kind,.i n0r.Step,.i n0r.Me,.i l0.To,.sl 1 (l0.Sets.map (eL 1 eI)),.sl 1 (l0.Bodies.map eI),.sl 1 (l0.States.map eS)])],[true,true,true,true,false,true,true,true,true,true,true],[0,1,2,3,4,5,6,7,8,9,10],[]⟩] rfl (⟨by kernel_rfl,⟨⟨Pt 1 0,fun _=>rfl,fun _=>.p (by exact ax rfl)⟩,⟨Pt 1 0,fun _=>rfl,fun _=>.p (by exact ax rfl)⟩,⟨Pt 1 0,fun _=>rfl,fun _=>.p (by exact aG rfl)⟩,⟨Pt 1 10,fun _=>rfl,fun _=>.p (by exact ae jh rfl rfl)⟩,⟨.b (.row 2),fun _=>rfl,fun _=>.p (by exact aX jX rfl rfl rfl)⟩,⟨.b (.agg [.i l0.Kind,.i n0r.Step,.i n0r.Me,.i l0.To,.sl 1 (l0.Sets.map (eL 1 eI)),.sl 1 (l0.Bodies.map eI),.sl 1 (l0.States.map eS)]),fun _=>rfl,fun _=>.p (by exact ji gb rfl rfl rfl rfl)⟩,⟨.b (.one (.sl 7 ([(⟨l0.Kind,n0r.Step,n0r.Me,l0.To,l0.Sets,l0.Bodies,l0.States⟩:aI)].map ah))),fun _=>rfl,fun _=>.p (by exact cg (es:=[(⟨l0.Kind,n0r.Step,n0r.Me,l0.To,l0.Sets,l0.Bodies,l0.States⟩:aI)].map ah) iL rfl rfl (bc fun _=>rfl) rfl (by decide) (by decide))⟩,⟨_,[2],.b (.row 2),rfl,fun _=>rfl,rfl,rfl,fun _=>.jG [1,2,101] (by exact .forget 1 10 rfl (.plain rfl (gq iL (ec e1) (dZ e1) rfl rfl rfl (cf e1) rfl))) (by exact rfl)⟩,trivial,trivial,trivial,trivial⟩,⟨by kernel_rfl,⟨⟨Pt 1 0,fun _=>rfl,fun _=>.p (by exact ax rfl)⟩,trivial,trivial,trivial,trivial,trivial,trivial,trivial,⟨Pt 1 0,fun _=>rfl,fun _=>.p (by exact aG rfl)⟩,⟨Pt 1 10,fun _=>rfl,fun _=>.p (by exact ae jh rfl rfl)⟩,⟨_,[],.b (.one .any),rfl,(fun e=>by simp at e),rfl,rfl,fun _=>.jG [1,2,101] (by exact .p (by exact fU jX rfl rfl rfl rfl (Nat.le_of_ble_eq_true rfl) rfl)) (by exact rfl)⟩,trivial⟩,⟨by kernel_rfl,⟨trivial,trivial,trivial,trivial,trivial,trivial,trivial,trivial,trivial,trivial,trivial,trivial⟩,trivial⟩⟩⟩) rfl rfl rfl [] [1,2] (s':=⟨[],[(1,.aW 95 [.one (.i n0r.Me),.one (.i n0r.Regions),.one (.i n0r.Step),.one (.sl 1 (n0r.Home.map eI)),.one (.sl 1 (n0r.Heard.map eB)),.one (.sl 1 (n0r.Sets.map (eL 1 eI))),.one (.sl 1 (n0r.States.map eS)),.one (.sl 3 (n0r.Tasks.map ao)),.one (.sl 1 (n0r.Done.map eB)),.one (.sl 1 (n0r.Results.map eS)),.row 2]),(2,.row 42 7 (x_1.map ah))]⟩) rfl ?_
 obtain rfl:=Option.some.inj h
 refine Fin.ai ⟨[],[(1,_),(2,_)]⟩ rfl ?_
 exact Fin.result [] (.inr rfl) rfl (.nil) ⟨rfl,rfl⟩
def fB (F:Nat) (s0:List Bool) (v0:Bool):Option Int :=
 Option.bind (iter F (fun x_1=>if (decide (x_1 < (s0.length:Int))) = true then ((aV s0 x_1).bind fun x_2=>if (v0 == x_2) = true then (some (.inr (.inr x_1))) else (some (.inl (IntKind.i64.wrap (x_1 + 1))))) else (some (.inr (.inl ())))) 0) (bG (fun _=>some (-1)) (fun y=>some y))
theorem pZ {F:Nat} {s0:List Bool} {v0:Bool} {r:Int} (h:fB F s0 v0 = some r):aA Try.prog [] 90 [] [.one (.sl 1 (s0.map eB)),.one (.bool v0)] (Is [] (.b (.one (.i r)))):=by
 unfold fB at h
 refine aA.intro 19 Try.func90 Try.ntmps90 rfl (by simp) fun E=>?_
 show ab _ E ⟨19,[],[],[]⟩ _ ⟨[(0,.b (.one (.sl 1 (s0.map eB)))),(1,B v0)],[]⟩ _
 refine ab.seq (ab.aa ?_)
 refine Oc oa (af.ak ⟨[(0,.b (.one (.sl 1 (s0.map eB)))),(1,B v0)],[]⟩ rfl ?_)
 obtain ⟨v1,h2,h⟩:=aP h
 refine ab.ca (v:=v1) (fun (_:Unit)=>⟨[],[]⟩) (fun z=>.inl z) ?_ ?_
 ·refine ab.seq (ab.aa ?_)
  refine Oc om (Oc (av sj rfl (List.length_map _)) (Oc om ?_))
  refine af.ak ⟨[(0,_),(1,_),(7,I (s0.length:Int)),(8,I 0)],[]⟩ rfl (ab.block (ab.bZ h2 (fun (x_1:Int)=>⟨[(0,.b (.one (.sl 1 (s0.map eB)))),(1,B v0),(7,I (s0.length:Int)),(8,I x_1)],[]⟩) [0,1,7,8] [] rfl ?_))
  rintro x_1 o3 h4 hy5
  refine ab.seq (ab.aa ?_)
  refine Oc (aY rfl rfl) (af.ak ⟨[(0,_),(1,_),(7,_),(8,_),(9,B (decide (x_1 < (s0.length:Int))))],[]⟩ rfl (ab.seq (ab.ite h4 rfl (fun _ h4=>?_) (fun _ h4=>?_))))
  ·refine ab.skip (Fin.ai ⟨[(0,_),(1,_),(7,_),(8,_)],[]⟩ rfl (Fin.then (ab.seq (ab.block (ab.seq (ab.aa ?_))))))
   refine Oc om (Oc oa ?_)
   refine af.ak ⟨[(0,_),(1,_),(5,I x_1),(7,_),(8,_)],[]⟩ rfl (ab.seq (ab.aa ?_))
   refine Oc om (Oc om (Oc om ?_))
   obtain ⟨x_2,e6,h4⟩:=aP h4
   refine Oc (an dK (aL e6) (aB (e:=eB) e6) rfl rfl) (Oc (au gx rfl rfl) (Oc (uu xr rfl rfl) ?_))
   refine af.ak ⟨[(0,_),(1,_),(5,_),(7,_),(8,_),(16,B (v0 == x_2))],[]⟩ rfl (ab.ite h4 rfl (fun _ h4=>?_) (fun _ h4=>?_))
   ·refine ab.seq (ab.aa ?_)
    refine Oc om (Oc oa ?_)
    refine af.ak ⟨[(4,I x_1)],[]⟩ rfl (ab.ret (Fin.aJ (Fin.aw ?_)))
    obtain rfl:=hy5 _ (Option.some.inj h4).symm
    refine Fin.aw (Fin.aJ (Fin.aw ?_))
    obtain rfl:=Option.some.inj h
    refine Fin.ai ⟨[(4,_)],[]⟩ rfl (Fin.aM [.one (.i x_1)] (.inl rfl) rfl (.cons (.tmp rfl) .nil) ⟨rfl,rfl⟩)
   ·refine ab.skip (Fin.ar (Fin.ai ⟨[(0,_),(1,_),(7,_),(8,_)],[]⟩ rfl (Fin.then (ab.aa ?_))))
    refine Oc (bh rfl rfl) (Oc om ?_)
    refine af.nil ?_
    exact Fin.bp [0,1,7,8] [] (IntKind.i64.wrap (x_1 + 1)) (Option.some.inj h4) rfl
  ·refine ab.exit (Fin.aq ?_)
   obtain rfl:=hy5 _ (Option.some.inj h4).symm
   refine Fin.aq (Fin.aE ?_)
   exact Fin.join [] [] () rfl rfl
 ·rintro _ hv
  subst v1
  refine ab.seq (ab.aa ?_)
  refine Oc oa (af.ak ⟨[(4,I (-1))],[]⟩ rfl (ab.ret ?_))
  obtain rfl:=Option.some.inj h
  refine Fin.ai ⟨[(4,_)],[]⟩ rfl (Fin.aM [.one (.i (-1))] (.inl rfl) rfl (.cons (.tmp rfl) .nil) ⟨rfl,rfl⟩)
def cB (F:Nat) (s0:List Bool) (v0:Bool):Option Bool :=
 (fB F s0 v0).bind fun x_1=>some (decide (0 ≤ x_1))
theorem ig {F:Nat} {s0:List Bool} {v0:Bool} {r:Bool} (h:cB F s0 v0 = some r):aA Try.prog [] 68 [] [.one (.sl 1 (s0.map eB)),.one (.bool v0)] (Is [] (.b (.one (.bool r)))):=by
 unfold cB at h
 refine aA.intro 9 Try.func68 Try.ntmps68 rfl (by simp) fun E=>?_
 show ab _ E ⟨9,[],[],[]⟩ _ ⟨[(0,.b (.one (.sl 1 (s0.map eB)))),(1,B v0)],[]⟩ _
 refine ab.seq (ab.aa ?_)
 refine Oc oa (af.ak ⟨[(0,.b (.one (.sl 1 (s0.map eB)))),(1,B v0)],[]⟩ rfl (ab.seq (ab.aa ?_)))
 refine Oc om (Oc om ?_)
 obtain ⟨x_1,e1,h⟩:=aP h
 refine Oc (az (pZ e1) goes90 rfl rfl) (Oc (gk rfl rfl) (Oc oa ?_))
 refine af.ak ⟨[(4,B (decide (0 ≤ x_1)))],[]⟩ rfl (ab.ret ?_)
 obtain rfl:=Option.some.inj h
 refine Fin.ai ⟨[(4,_)],[]⟩ rfl (Fin.aM [.one (.bool (decide (0 ≤ x_1)))] (.inl rfl) rfl (.cons (.tmp rfl) .nil) ⟨rfl,rfl⟩)
def dB (F:Nat) (bodies0:List Int) (region0:Int) (n0r:Round) (n0out:List aI):Option (List Int) :=
 Option.bind (iter F (eU fun out_2 x_3=>if (decide (x_3 < (bodies0.length:Int))) = true then (Option.bind ((aV bodies0 x_3).bind fun x_6=>(aV n0r.Home x_6).bind fun x_7=>if (decide (x_7 = region0)) = true then ((eF out_2 [x_6]).bind fun x_8=>some x_8) else (some out_2)) (fun out_5=>some (.inl (out_5,IntKind.i64.wrap (x_3 + 1))))) else (some (.inr out_2))) ([],0)) (fun out_1=>some out_1)
theorem jc {F:Nat} {bodies0:List Int} {region0:Int} {n0r:Round} {n0out:List aI} {r:(List Int)} (h:dB F bodies0 region0 n0r n0out = some r):aA Try.prog [] 55 [(1,.aW 95 [.one (.i n0r.Me),.one (.i n0r.Regions),.one (.i n0r.Step),.one (.sl 1 (n0r.Home.map eI)),.one (.sl 1 (n0r.Heard.map eB)),.one (.sl 1 (n0r.Sets.map (eL 1 eI))),.one (.sl 1 (n0r.States.map eS)),.one (.sl 3 (n0r.Tasks.map ao)),.one (.sl 1 (n0r.Done.map eB)),.one (.sl 1 (n0r.Results.map eS)),.row 2]),(2,.row 42 7 (n0out.map ah))] [.ptr 1 0,.one (.sl 1 (bodies0.map eI)),.one (.i region0)] (Is [(1,.aW 95 [.one (.i n0r.Me),.one (.i n0r.Regions),.one (.i n0r.Step),.one (.sl 1 (n0r.Home.map eI)),.one (.sl 1 (n0r.Heard.map eB)),.one (.sl 1 (n0r.Sets.map (eL 1 eI))),.one (.sl 1 (n0r.States.map eS)),.one (.sl 3 (n0r.Tasks.map ao)),.one (.sl 1 (n0r.Done.map eB)),.one (.sl 1 (n0r.Results.map eS)),.row 2]),(2,.row 42 7 (n0out.map ah)),(51,.row 3 1 (r.map eI))] (.b (.row 51))):=by
 unfold dB at h
 refine aA.intro 32 Try.func55 Try.ntmps55 rfl (by simp) fun E=>?_
 show ab _ E ⟨32,[1],[1,2],[]⟩ _ ⟨[(0,Pt 1 0),(1,.b (.one (.sl 1 (bodies0.map eI)))),(2,I region0)],[(1,.aW 95 [.one (.i n0r.Me),.one (.i n0r.Regions),.one (.i n0r.Step),.one (.sl 1 (n0r.Home.map eI)),.one (.sl 1 (n0r.Heard.map eB)),.one (.sl 1 (n0r.Sets.map (eL 1 eI))),.one (.sl 1 (n0r.States.map eS)),.one (.sl 3 (n0r.Tasks.map ao)),.one (.sl 1 (n0r.Done.map eB)),.one (.sl 1 (n0r.Results.map eS)),.row 2]),(2,.row 42 7 (n0out.map ah))]⟩ _
 refine ab.seq (ab.aa ?_)
 refine Oc oa (af.ak ⟨[(0,Pt 1 0),(1,.b (.one (.sl 1 (bodies0.map eI)))),(2,I region0)],[(1,.aW 95 [.one (.i n0r.Me),.one (.i n0r.Regions),.one (.i n0r.Step),.one (.sl 1 (n0r.Home.map eI)),.one (.sl 1 (n0r.Heard.map eB)),.one (.sl 1 (n0r.Sets.map (eL 1 eI))),.one (.sl 1 (n0r.States.map eS)),.one (.sl 3 (n0r.Tasks.map ao)),.one (.sl 1 (n0r.Done.map eB)),.one (.sl 1 (n0r.Results.map eS)),.row 2]),(2,.row 42 7 (n0out.map ah))]⟩ rfl (ab.seq (ab.aa ?_)))
 refine Oc oa (af.ak ⟨[(0,_),(1,_),(2,_),(7,.b (.one (.nil)))],[(1,_),(2,_)]⟩ rfl ?_)
 obtain ⟨v1,h2,h⟩:=aP h
 refine ab.ca (v:=v1) (fun (out_1:List Int)=>⟨[(7,.b (.row 102))],[(1,.aW 95 [.one (.i n0r.Me),.one (.i n0r.Regions),.one (.i n0r.Step),.one (.sl 1 (n0r.Home.map eI)),.one (.sl 1 (n0r.Heard.map eB)),.one (.sl 1 (n0r.Sets.map (eL 1 eI))),.one (.sl 1 (n0r.States.map eS)),.one (.sl 3 (n0r.Tasks.map ao)),.one (.sl 1 (n0r.Done.map eB)),.one (.sl 1 (n0r.Results.map eS)),.row 2]),(2,.row 42 7 (n0out.map ah)),(102,.row 3 1 (out_1.map eI))]⟩) (fun z=>z) ?_ ?_
 ·refine ab.seq (ab.aa ?_)
  refine Oc om (Oc (av bR rfl (List.length_map _)) (Oc om ?_))
  refine af.ak ⟨[(0,_),(2,_),(7,_),(10,.b (.one (.sl 1 (bodies0.map eI)))),(11,I (bodies0.length:Int)),(12,I 0)],[(1,_),(2,_)]⟩ rfl (ab.block (ab.dc 7 102 1 3 rfl (by decide) rfl (ab.bZ h2 (eU fun (out_2:List Int) (x_3:Int)=>⟨[(0,Pt 1 0),(2,I region0),(7,.b (.row 102)),(10,.b (.one (.sl 1 (bodies0.map eI)))),(11,I (bodies0.length:Int)),(12,I x_3)],[(1,.aW 95 [.one (.i n0r.Me),.one (.i n0r.Regions),.one (.i n0r.Step),.one (.sl 1 (n0r.Home.map eI)),.one (.sl 1 (n0r.Heard.map eB)),.one (.sl 1 (n0r.Sets.map (eL 1 eI))),.one (.sl 1 (n0r.States.map eS)),.one (.sl 3 (n0r.Tasks.map ao)),.one (.sl 1 (n0r.Done.map eB)),.one (.sl 1 (n0r.Results.map eS)),.row 2]),(2,.row 42 7 (n0out.map ah)),(102,.row 3 1 (out_2.map eI))]⟩) [0,2,7,10,11,12] [1,2,102] rfl ?_)))
  rintro ⟨out_2,x_3⟩ o3 h4 hy5
  refine ab.seq (ab.aa ?_)
  refine Oc (aY rfl rfl) (af.ak ⟨[(0,_),(2,_),(7,_),(10,_),(11,_),(12,_),(13,B (decide (x_3 < (bodies0.length:Int))))],[(1,_),(2,_),(102,_)]⟩ rfl (ab.seq (ab.ite h4 rfl (fun _ h4=>?_) (fun _ h4=>?_))))
  ·refine ab.skip (Fin.ai ⟨[(0,_),(2,_),(7,_),(10,_),(11,_),(12,_)],[(1,_),(2,_),(102,_)]⟩ rfl (Fin.then ?_))
   obtain ⟨v6,h7,h4⟩:=aP h4
   refine ab.ca (v:=v6) (fun (out_5:List Int)=>⟨[(0,Pt 1 0),(2,I region0),(7,.b (.row 102)),(10,.b (.one (.sl 1 (bodies0.map eI)))),(11,I (bodies0.length:Int)),(12,I x_3)],[(1,.aW 95 [.one (.i n0r.Me),.one (.i n0r.Regions),.one (.i n0r.Step),.one (.sl 1 (n0r.Home.map eI)),.one (.sl 1 (n0r.Heard.map eB)),.one (.sl 1 (n0r.Sets.map (eL 1 eI))),.one (.sl 1 (n0r.States.map eS)),.one (.sl 3 (n0r.Tasks.map ao)),.one (.sl 1 (n0r.Done.map eB)),.one (.sl 1 (n0r.Results.map eS)),.row 2]),(2,.row 42 7 (n0out.map ah)),(102,.row 3 1 (out_5.map eI))]⟩) (fun z=>z) ?_ ?_
   ·refine ab.block (ab.seq (ab.aa ?_))
    obtain ⟨x_6,e8,h7⟩:=aP h7
    refine Oc (an aQ (aL e8) (aB (e:=eI) e8) rfl rfl) (Oc (au aD rfl rfl) (Oc oa ?_))
    refine af.ak ⟨[(0,_),(2,_),(7,_),(9,I x_6),(10,_),(11,_),(12,_)],[(1,_),(2,_),(102,_)]⟩ rfl (ab.seq (ab.aa ?_))
    refine Oc om (Oc (aG rfl) (Oc (ae bm rfl rfl) (Oc (ae dF rfl rfl) (Oc (aX aN rfl rfl rfl) (Oc om ?_)))))
    obtain ⟨x_7,e9,h7⟩:=aP h7
    refine Oc (an aQ (aL e9) (aB (e:=eI) e9) rfl rfl) (af.ai ⟨[(0,_),(2,_),(7,_),(9,_),(10,_),(11,_),(12,_),(22,.b (.cx [.i x_7]))],[(1,_),(2,_),(102,_)]⟩ rfl (Oc (au aD rfl rfl) (Oc om (Oc (di rfl rfl) ?_))))
    refine af.ak ⟨[(0,_),(2,_),(7,_),(9,_),(10,_),(11,_),(12,_),(25,B (decide (x_7 = region0)))],[(1,_),(2,_),(102,_)]⟩ rfl (ab.ite h7 rfl (fun _ h7=>?_) (fun _ h7=>?_))
    ·refine ab.aa (Oc om (Oc om (Oc (aO (k:=103) (es:=[x_6].map eI) aQ rfl rfl (bc fun _=>rfl) rfl (by decide) (by decide) rfl) ?_)))
     obtain ⟨x_8,e10,h7⟩:=aP h7
     refine Oc (b4 aQ (ec e10) (dZ e10) rfl rfl rfl rfl (cf e10) rfl) (Oc oa ?_)
     refine af.nil (Fin.ar ?_)
     exact Fin.join [0,2,7,10,11,12] [1,2,102] x_8 (Option.some.inj h7) rfl
    ·refine ab.skip (Fin.ar ?_)
     exact Fin.join [0,2,7,10,11,12] [1,2,102] out_2 (Option.some.inj h7) rfl
   ·rintro out_5 hv
    subst v6
    refine ab.aa (Oc (bh rfl rfl) (Oc om ?_))
    refine af.nil ?_
    exact Fin.bp [0,2,7,10,11,12] [1,2,102] (out_5,IntKind.i64.wrap (x_3 + 1)) (Option.some.inj h4) rfl
  ·refine ab.exit (Fin.aq ?_)
   obtain rfl:=hy5 _ (Option.some.inj h4).symm
   refine Fin.aq (Fin.aE ?_)
   exact Fin.join [7] [1,2,102] out_2 rfl rfl
 ·rintro out_1 hv
  subst v1
  refine ab.seq (ab.aa ?_)
  refine Oc om (Oc oa ?_)
  refine af.ak ⟨[(6,.b (.row 102))],[(1,_),(2,_),(102,_)]⟩ rfl (ab.ret ?_)
  obtain rfl:=Option.some.inj h
  refine Fin.ai ⟨[(6,.b (.row 102))],[(1,.aW 95 [.one (.i n0r.Me),.one (.i n0r.Regions),.one (.i n0r.Step),.one (.sl 1 (n0r.Home.map eI)),.one (.sl 1 (n0r.Heard.map eB)),.one (.sl 1 (n0r.Sets.map (eL 1 eI))),.one (.sl 1 (n0r.States.map eS)),.one (.sl 3 (n0r.Tasks.map ao)),.one (.sl 1 (n0r.Done.map eB)),.one (.sl 1 (n0r.Results.map eS)),.row 2]),(2,.row 42 7 (n0out.map ah)),(102,.row 3 1 (out_1.map eI))]⟩ rfl (Fin.rename 102 51 rfl (by decide) rfl (Fin.ai ⟨[(6,.b (.row 51))],[(1,_),(2,_),(51,.row 3 1 (out_1.map eI))]⟩ rfl ?_))
  exact Fin.result [.row 51] (.inl rfl) rfl (.cons (.tmp rfl) .nil) ⟨rfl,rfl⟩
def eo (F:Nat) (bodies0:List Int) (region0:Int) (n0r:Round) (n0out:List aI):Option (List Int) :=
 Option.bind (iter F (eU fun out_2 x_3=>if (decide (x_3 < (bodies0.length:Int))) = true then (Option.bind ((aV bodies0 x_3).bind fun x_6=>(aV n0r.Home x_6).bind fun x_7=>if (decide (x_7 = region0)) = true then ((eF out_2 [x_6]).bind fun x_8=>some x_8) else (some out_2)) (fun out_5=>some (.inl (out_5,IntKind.i64.wrap (x_3 + 1))))) else (some (.inr out_2))) ([],0)) (fun out_1=>some out_1)
theorem n5 {F:Nat} {bodies0:List Int} {region0:Int} {n0r:Round} {n0out:List aI} {r:(List Int)} (h:eo F bodies0 region0 n0r n0out = some r):aA Try.prog [] 55 [(1,.aW 95 [.one (.i n0r.Me),.one (.i n0r.Regions),.one (.i n0r.Step),.one (.sl 1 (n0r.Home.map eI)),.one (.sl 1 (n0r.Heard.map eB)),.one (.sl 1 (n0r.Sets.map (eL 1 eI))),.one (.sl 1 (n0r.States.map eS)),.one (.sl 3 (n0r.Tasks.map ao)),.row 3,.row 4,.row 2]),(2,.row 42 7 (n0out.map ah)),(3,.row 4 1 (n0r.Done.map eB)),(4,.row 9 1 (n0r.Results.map eS))] [.ptr 1 0,.one (.sl 1 (bodies0.map eI)),.one (.i region0)] (Is [(1,.aW 95 [.one (.i n0r.Me),.one (.i n0r.Regions),.one (.i n0r.Step),.one (.sl 1 (n0r.Home.map eI)),.one (.sl 1 (n0r.Heard.map eB)),.one (.sl 1 (n0r.Sets.map (eL 1 eI))),.one (.sl 1 (n0r.States.map eS)),.one (.sl 3 (n0r.Tasks.map ao)),.row 3,.row 4,.row 2]),(2,.row 42 7 (n0out.map ah)),(3,.row 4 1 (n0r.Done.map eB)),(4,.row 9 1 (n0r.Results.map eS)),(51,.row 3 1 (r.map eI))] (.b (.row 51))):=by
 unfold eo at h
 refine aA.intro 32 Try.func55 Try.ntmps55 rfl (by simp) fun E=>?_
 show ab _ E ⟨32,[1],[1,2,3,4],[]⟩ _ ⟨[(0,Pt 1 0),(1,.b (.one (.sl 1 (bodies0.map eI)))),(2,I region0)],[(1,.aW 95 [.one (.i n0r.Me),.one (.i n0r.Regions),.one (.i n0r.Step),.one (.sl 1 (n0r.Home.map eI)),.one (.sl 1 (n0r.Heard.map eB)),.one (.sl 1 (n0r.Sets.map (eL 1 eI))),.one (.sl 1 (n0r.States.map eS)),.one (.sl 3 (n0r.Tasks.map ao)),.row 3,.row 4,.row 2]),(2,.row 42 7 (n0out.map ah)),(3,.row 4 1 (n0r.Done.map eB)),(4,.row 9 1 (n0r.Results.map eS))]⟩ _
 refine ab.seq (ab.aa ?_)
 refine Oc oa (af.ak ⟨[(0,Pt 1 0),(1,.b (.one (.sl 1 (bodies0.map eI)))),(2,I region0)],[(1,.aW 95 [.one (.i n0r.Me),.one (.i n0r.Regions),.one (.i n0r.Step),.one (.sl 1 (n0r.Home.map eI)),.one (.sl 1 (n0r.Heard.map eB)),.one (.sl 1 (n0r.Sets.map (eL 1 eI))),.one (.sl 1 (n0r.States.map eS)),.one (.sl 3 (n0r.Tasks.map ao)),.row 3,.row 4,.row 2]),(2,.row 42 7 (n0out.map ah)),(3,.row 4 1 (n0r.Done.map eB)),(4,.row 9 1 (n0r.Results.map eS))]⟩ rfl (ab.seq (ab.aa ?_)))
 refine Oc oa (af.ak ⟨[(0,_),(1,_),(2,_),(7,.b (.one (.nil)))],[(1,_),(2,_),(3,_),(4,_)]⟩ rfl ?_)
 obtain ⟨v1,h2,h⟩:=aP h
 refine ab.ca (v:=v1) (fun (out_1:List Int)=>⟨[(7,.b (.row 102))],[(1,.aW 95 [.one (.i n0r.Me),.one (.i n0r.Regions),.one (.i n0r.Step),.one (.sl 1 (n0r.Home.map eI)),.one (.sl 1 (n0r.Heard.map eB)),.one (.sl 1 (n0r.Sets.map (eL 1 eI))),.one (.sl 1 (n0r.States.map eS)),.one (.sl 3 (n0r.Tasks.map ao)),.row 3,.row 4,.row 2]),(2,.row 42 7 (n0out.map ah)),(3,.row 4 1 (n0r.Done.map eB)),(4,.row 9 1 (n0r.Results.map eS)),(102,.row 3 1 (out_1.map eI))]⟩) (fun z=>z) ?_ ?_
 ·refine ab.seq (ab.aa ?_)
  refine Oc om (Oc (av bR rfl (List.length_map _)) (Oc om ?_))
  refine af.ak ⟨[(0,_),(2,_),(7,_),(10,.b (.one (.sl 1 (bodies0.map eI)))),(11,I (bodies0.length:Int)),(12,I 0)],[(1,_),(2,_),(3,_),(4,_)]⟩ rfl (ab.block (ab.dc 7 102 1 3 rfl (by decide) rfl (ab.bZ h2 (eU fun (out_2:List Int) (x_3:Int)=>⟨[(0,Pt 1 0),(2,I region0),(7,.b (.row 102)),(10,.b (.one (.sl 1 (bodies0.map eI)))),(11,I (bodies0.length:Int)),(12,I x_3)],[(1,.aW 95 [.one (.i n0r.Me),.one (.i n0r.Regions),.one (.i n0r.Step),.one (.sl 1 (n0r.Home.map eI)),.one (.sl 1 (n0r.Heard.map eB)),.one (.sl 1 (n0r.Sets.map (eL 1 eI))),.one (.sl 1 (n0r.States.map eS)),.one (.sl 3 (n0r.Tasks.map ao)),.row 3,.row 4,.row 2]),(2,.row 42 7 (n0out.map ah)),(3,.row 4 1 (n0r.Done.map eB)),(4,.row 9 1 (n0r.Results.map eS)),(102,.row 3 1 (out_2.map eI))]⟩) [0,2,7,10,11,12] [1,2,3,4,102] rfl ?_)))
  rintro ⟨out_2,x_3⟩ o3 h4 hy5
  refine ab.seq (ab.aa ?_)
  refine Oc (aY rfl rfl) (af.ak ⟨[(0,_),(2,_),(7,_),(10,_),(11,_),(12,_),(13,B (decide (x_3 < (bodies0.length:Int))))],[(1,_),(2,_),(3,_),(4,_),(102,_)]⟩ rfl (ab.seq (ab.ite h4 rfl (fun _ h4=>?_) (fun _ h4=>?_))))
  ·refine ab.skip (Fin.ai ⟨[(0,_),(2,_),(7,_),(10,_),(11,_),(12,_)],[(1,_),(2,_),(3,_),(4,_),(102,_)]⟩ rfl (Fin.then ?_))
   obtain ⟨v6,h7,h4⟩:=aP h4
   refine ab.ca (v:=v6) (fun (out_5:List Int)=>⟨[(0,Pt 1 0),(2,I region0),(7,.b (.row 102)),(10,.b (.one (.sl 1 (bodies0.map eI)))),(11,I (bodies0.length:Int)),(12,I x_3)],[(1,.aW 95 [.one (.i n0r.Me),.one (.i n0r.Regions),.one (.i n0r.Step),.one (.sl 1 (n0r.Home.map eI)),.one (.sl 1 (n0r.Heard.map eB)),.one (.sl 1 (n0r.Sets.map (eL 1 eI))),.one (.sl 1 (n0r.States.map eS)),.one (.sl 3 (n0r.Tasks.map ao)),.row 3,.row 4,.row 2]),(2,.row 42 7 (n0out.map ah)),(3,.row 4 1 (n0r.Done.map eB)),(4,.row 9 1 (n0r.Results.map eS)),(102,.row 3 1 (out_5.map eI))]⟩) (fun z=>z) ?_ ?_
   ·refine ab.block (ab.seq (ab.aa ?_))
    obtain ⟨x_6,e8,h7⟩:=aP h7
    refine Oc (an aQ (aL e8) (aB (e:=eI) e8) rfl rfl) (Oc (au aD rfl rfl) (Oc oa ?_))
    refine af.ak ⟨[(0,_),(2,_),(7,_),(9,I x_6),(10,_),(11,_),(12,_)],[(1,_),(2,_),(3,_),(4,_),(102,_)]⟩ rfl (ab.seq (ab.aa ?_))
    refine Oc om (Oc (aG rfl) (Oc (ae bm rfl rfl) (Oc (ae dF rfl rfl) (Oc (aX aN rfl rfl rfl) (Oc om ?_)))))
    obtain ⟨x_7,e9,h7⟩:=aP h7
    refine Oc (an aQ (aL e9) (aB (e:=eI) e9) rfl rfl) (af.ai ⟨[(0,_),(2,_),(7,_),(9,_),(10,_),(11,_),(12,_),(22,.b (.cx [.i x_7]))],[(1,_),(2,_),(3,_),(4,_),(102,_)]⟩ rfl (Oc (au aD rfl rfl) (Oc om (Oc (di rfl rfl) ?_))))
    refine af.ak ⟨[(0,_),(2,_),(7,_),(9,_),(10,_),(11,_),(12,_),(25,B (decide (x_7 = region0)))],[(1,_),(2,_),(3,_),(4,_),(102,_)]⟩ rfl (ab.ite h7 rfl (fun _ h7=>?_) (fun _ h7=>?_))
    ·refine ab.aa (Oc om (Oc om (Oc (aO (k:=103) (es:=[x_6].map eI) aQ rfl rfl (bc fun _=>rfl) rfl (by decide) (by decide) rfl) ?_)))
     obtain ⟨x_8,e10,h7⟩:=aP h7
     refine Oc (b4 aQ (ec e10) (dZ e10) rfl rfl rfl rfl (cf e10) rfl) (Oc oa ?_)
     refine af.nil (Fin.ar ?_)
     exact Fin.join [0,2,7,10,11,12] [1,2,3,4,102] x_8 (Option.some.inj h7) rfl
    ·refine ab.skip (Fin.ar ?_)
     exact Fin.join [0,2,7,10,11,12] [1,2,3,4,102] out_2 (Option.some.inj h7) rfl
   ·rintro out_5 hv
    subst v6
    refine ab.aa (Oc (bh rfl rfl) (Oc om ?_))
    refine af.nil ?_
    exact Fin.bp [0,2,7,10,11,12] [1,2,3,4,102] (out_5,IntKind.i64.wrap (x_3 + 1)) (Option.some.inj h4) rfl
  ·refine ab.exit (Fin.aq ?_)
   obtain rfl:=hy5 _ (Option.some.inj h4).symm
   refine Fin.aq (Fin.aE ?_)
   exact Fin.join [7] [1,2,3,4,102] out_2 rfl rfl
 ·rintro out_1 hv
  subst v1
  refine ab.seq (ab.aa ?_)
  refine Oc om (Oc oa ?_)
  refine af.ak ⟨[(6,.b (.row 102))],[(1,_),(2,_),(3,_),(4,_),(102,_)]⟩ rfl (ab.ret ?_)
  obtain rfl:=Option.some.inj h
  refine Fin.ai ⟨[(6,.b (.row 102))],[(1,.aW 95 [.one (.i n0r.Me),.one (.i n0r.Regions),.one (.i n0r.Step),.one (.sl 1 (n0r.Home.map eI)),.one (.sl 1 (n0r.Heard.map eB)),.one (.sl 1 (n0r.Sets.map (eL 1 eI))),.one (.sl 1 (n0r.States.map eS)),.one (.sl 3 (n0r.Tasks.map ao)),.row 3,.row 4,.row 2]),(2,.row 42 7 (n0out.map ah)),(3,.row 4 1 (n0r.Done.map eB)),(4,.row 9 1 (n0r.Results.map eS)),(102,.row 3 1 (out_1.map eI))]⟩ rfl (Fin.rename 102 51 rfl (by decide) rfl (Fin.ai ⟨[(6,.b (.row 51))],[(1,_),(2,_),(3,_),(4,_),(51,.row 3 1 (out_1.map eI))]⟩ rfl ?_))
  exact Fin.result [.row 51] (.inl rfl) rfl (.cons (.tmp rfl) .nil) ⟨rfl,rfl⟩
def dV (F:Nat) (all0:List de) (bodies0:List Int):Option (List de) :=
 Option.bind (iter F (eU fun out_2 x_3=>if (decide (x_3 < (bodies0.length:Int))) = true then ((aV bodies0 x_3).bind fun x_5=>(aV all0 x_5).bind fun x_6=>(eF out_2 [x_6]).bind fun x_7=>some (.inl (x_7,IntKind.i64.wrap (x_3 + 1)))) else (some (.inr out_2))) ([],0)) (fun out_1=>some out_1)
theorem jR (kr0:Nat) {F:Nat} {all0:List de} {bodies0:List Int} {r:(List de)} (h:dV F all0 bodies0 = some r):aA Try.prog [] 56 [] [.one (.sl 1 (all0.map eS)),.one (.sl 1 (bodies0.map eI))] (Is [(kr0,.row 9 1 (r.map eS))] (.b (.row kr0))):=by
 unfold dV at h
 refine aA.intro 23 Try.func56 Try.ntmps56 rfl (by simp) fun E=>?_
 show ab _ E ⟨23,[],[],[]⟩ _ ⟨[(0,.b (.one (.sl 1 (all0.map eS)))),(1,.b (.one (.sl 1 (bodies0.map eI))))],[]⟩ _
 refine ab.seq (ab.aa ?_)
 refine Oc oa (af.ak ⟨[(0,.b (.one (.sl 1 (all0.map eS)))),(1,.b (.one (.sl 1 (bodies0.map eI))))],[]⟩ rfl (ab.seq (ab.aa ?_)))
 refine Oc oa (af.ak ⟨[(0,_),(1,_),(5,.b (.one (.nil)))],[]⟩ rfl ?_)
 obtain ⟨v1,h2,h⟩:=aP h
 refine ab.ca (v:=v1) (fun (out_1:List de)=>⟨[(5,.b (.row 102))],[(102,.row 9 1 (out_1.map eS))]⟩) (fun z=>z) ?_ ?_
 ·refine ab.seq (ab.aa ?_)
  refine Oc om (Oc (av bR rfl (List.length_map _)) (Oc om ?_))
  refine af.ak ⟨[(0,_),(5,_),(8,.b (.one (.sl 1 (bodies0.map eI)))),(9,I (bodies0.length:Int)),(10,I 0)],[]⟩ rfl (ab.block (ab.dc 5 102 1 9 rfl (by decide) rfl (ab.bZ h2 (eU fun (out_2:List de) (x_3:Int)=>⟨[(0,.b (.one (.sl 1 (all0.map eS)))),(5,.b (.row 102)),(8,.b (.one (.sl 1 (bodies0.map eI)))),(9,I (bodies0.length:Int)),(10,I x_3)],[(102,.row 9 1 (out_2.map eS))]⟩) [0,5,8,9,10] [102] rfl ?_)))
  rintro ⟨out_2,x_3⟩ o3 h4 hy5
  refine ab.seq (ab.aa ?_)
  refine Oc (aY rfl rfl) (af.ak ⟨[(0,_),(5,_),(8,_),(9,_),(10,_),(11,B (decide (x_3 < (bodies0.length:Int))))],[(102,_)]⟩ rfl (ab.seq (ab.ite h4 rfl (fun _ h4=>?_) (fun _ h4=>?_))))
  ·refine ab.skip (Fin.ai ⟨[(0,_),(5,_),(8,_),(9,_),(10,_)],[(102,_)]⟩ rfl (Fin.then (ab.seq (ab.block (ab.seq (ab.aa ?_))))))
   obtain ⟨x_5,e6,h4⟩:=aP h4
   refine Oc (an aQ (aL e6) (aB (e:=eI) e6) rfl rfl) (Oc (au aD rfl rfl) (Oc oa ?_))
   refine af.ak ⟨[(0,_),(5,_),(7,I x_5),(8,_),(9,_),(10,_)],[(102,_)]⟩ rfl (ab.aa (Oc om (Oc om (Oc om ?_))))
   obtain ⟨x_6,e7,h4⟩:=aP h4
   refine Oc (an cw (aL e7) (aB (e:=eS) e7) rfl rfl) (Oc (au fG rfl rfl) (Oc (aO (k:=103) (es:=[x_6].map eS) cw rfl rfl (bc fun _=>rfl) rfl (by decide) (by decide) rfl) ?_))
   obtain ⟨x_7,e8,h4⟩:=aP h4
   refine Oc (b4 cw (ec e8) (dZ e8) rfl rfl rfl rfl (cf e8) rfl) (Oc oa ?_)
   refine af.nil (Fin.ar (Fin.ai ⟨[(0,_),(5,_),(8,_),(9,_),(10,_)],[(102,.row 9 1 (x_7.map eS))]⟩ rfl (Fin.then (ab.aa ?_))))
   refine Oc (bh rfl rfl) (Oc om ?_)
   refine af.nil ?_
   exact Fin.bp [0,5,8,9,10] [102] (x_7,IntKind.i64.wrap (x_3 + 1)) (Option.some.inj h4) rfl
  ·refine ab.exit (Fin.aq ?_)
   obtain rfl:=hy5 _ (Option.some.inj h4).symm
   refine Fin.aq (Fin.aE ?_)
   exact Fin.join [5] [102] out_2 rfl rfl
 ·rintro out_1 hv
  subst v1
  refine ab.seq (ab.aa ?_)
  refine Oc om (Oc oa ?_)
  refine af.ak ⟨[(4,.b (.row 102))],[(102,_)]⟩ rfl (ab.ret ?_)
  obtain rfl:=Option.some.inj h
  refine Fin.ai ⟨[(4,_)],[(102,_)]⟩ rfl (Fin.dD 102 kr0 [.row 102] (.inl rfl) rfl (.cons (.tmp rfl) .nil) rfl rfl rfl rfl ⟨rfl,rfl⟩)
def cX (F:Nat) (n0r:Round) (n0out:List aI):Option (Round × (List aI)) :=
 (cB F n0r.Heard false).bind fun x_1=>if x_1 = true then (some (n0r,n0out)) else ((dW F n0r.Home n0r.Sets).bind fun x_2=>Option.bind (mk? (false:Bool) (x_2.length:Int) (x_2.length:Int)) (fun x_3=>Option.bind (iter F (eU fun out_4 x_5=>if (decide (x_5 < (x_2.length:Int))) = true then (Option.bind ((aV x_2 x_5).bind fun x_8=>(dB F x_8.Bodies n0r.Me (⟨n0r.Me,n0r.Regions,n0r.Step,n0r.Home,n0r.Heard,n0r.Sets,n0r.States,x_2,x_3,n0r.Results⟩:Round) out_4).bind fun x_9=>if ((decide (x_8.Owner ≠ n0r.Me)) && (decide (0 < (x_9.length:Int)))) = true then ((dV F n0r.States x_9).bind fun x_10=>(cW F (⟨2,0,0,x_8.Owner,[],x_9,x_10⟩:aI) (⟨n0r.Me,n0r.Regions,n0r.Step,n0r.Home,n0r.Heard,n0r.Sets,n0r.States,x_2,x_3,n0r.Results⟩:Round) out_4).bind fun x_11=>some x_11) else (some out_4)) (fun out_7=>some (.inl (out_7,IntKind.i64.wrap (x_5 + 1))))) else (some (.inr out_4))) (n0out,0)) (fun out_6=>some ((⟨n0r.Me,n0r.Regions,n0r.Step,n0r.Home,n0r.Heard,n0r.Sets,n0r.States,x_2,x_3,n0r.Results⟩:Round),out_6))))
theorem kn {F:Nat} {n0r:Round} {n0out:List aI} {r:Round × (List aI)} (h:cX F n0r n0out = some r):aA Try.prog [] 44 [(1,.aW 95 [.one (.i n0r.Me),.one (.i n0r.Regions),.one (.i n0r.Step),.one (.sl 1 (n0r.Home.map eI)),.one (.sl 1 (n0r.Heard.map eB)),.one (.sl 1 (n0r.Sets.map (eL 1 eI))),.one (.sl 1 (n0r.States.map eS)),.one (.sl 3 (n0r.Tasks.map ao)),.one (.sl 1 (n0r.Done.map eB)),.one (.sl 1 (n0r.Results.map eS)),.row 2]),(2,.row 42 7 (n0out.map ah))] [.ptr 1 0] (Is [(1,.aW 95 [.one (.i r.1.Me),.one (.i r.1.Regions),.one (.i r.1.Step),.one (.sl 1 (r.1.Home.map eI)),.one (.sl 1 (r.1.Heard.map eB)),.one (.sl 1 (r.1.Sets.map (eL 1 eI))),.one (.sl 1 (r.1.States.map eS)),.one (.sl 3 (r.1.Tasks.map ao)),.one (.sl 1 (r.1.Done.map eB)),.one (.sl 1 (r.1.Results.map eS)),.row 2]),(2,.row 42 7 (r.2.map ah))] (.gR [])):=by
 unfold cX at h
 refine aA.intro 83 Try.func44 Try.ntmps44 rfl (by simp) fun E=>?_
 show ab _ E ⟨83,[1],[1,2],[]⟩ _ ⟨[(0,Pt 1 0)],[(1,.aW 95 [.one (.i n0r.Me),.one (.i n0r.Regions),.one (.i n0r.Step),.one (.sl 1 (n0r.Home.map eI)),.one (.sl 1 (n0r.Heard.map eB)),.one (.sl 1 (n0r.Sets.map (eL 1 eI))),.one (.sl 1 (n0r.States.map eS)),.one (.sl 3 (n0r.Tasks.map ao)),.one (.sl 1 (n0r.Done.map eB)),.one (.sl 1 (n0r.Results.map eS)),.row 2]),(2,.row 42 7 (n0out.map ah))]⟩ _
 refine ab.seq (ab.seq (ab.aa ?_))
 refine Oc om (Oc (aG rfl) (Oc (ae bm rfl rfl) (Oc (ae er rfl rfl) (Oc (aX dd rfl rfl rfl) ?_))))
 obtain ⟨x_1,e1,h⟩:=aP h
 refine Oc (az (ig e1) uX rfl rfl) (af.ak ⟨[(0,Pt 1 0),(10,B x_1)],[(1,.aW 95 [.one (.i n0r.Me),.one (.i n0r.Regions),.one (.i n0r.Step),.one (.sl 1 (n0r.Home.map eI)),.one (.sl 1 (n0r.Heard.map eB)),.one (.sl 1 (n0r.Sets.map (eL 1 eI))),.one (.sl 1 (n0r.States.map eS)),.one (.sl 3 (n0r.Tasks.map ao)),.one (.sl 1 (n0r.Done.map eB)),.one (.sl 1 (n0r.Results.map eS)),.row 2]),(2,.row 42 7 (n0out.map ah))]⟩ rfl (ab.ite h rfl (fun _ h=>?_) (fun _ h=>?_)))
 ·refine ab.ret (Fin.aw ?_)
  obtain rfl:=Option.some.inj h
  refine Fin.ai ⟨[],[(1,_),(2,_)]⟩ rfl ?_
  exact Fin.result [] (.inl rfl) rfl (.nil) ⟨rfl,rfl⟩
 ·refine ab.skip (Fin.ai ⟨[(0,_)],[(1,_),(2,_)]⟩ rfl (Fin.then (ab.seq ?_)))
  refine ab.ai ⟨[(0,_)],[(1,_),(2,_)]⟩ rfl ?_
  obtain ⟨x_2,e2,h⟩:=aP h
  refine ab.eX mixed 15 [Pt 1 0,Pt 1 0,Pt 1 0,Pt 1 0,Pt 1 3,.b (.one (.sl 1 (n0r.Home.map eI))),Pt 1 0,Pt 1 0,Pt 1 0,Pt 1 5,.b (.one (.sl 1 (n0r.Sets.map (eL 1 eI)))),.b (.one (.sl 3 (x_2.map ao))),Pt 1 0,Pt 1 0,Pt 1 7] [0] [1,2] (s':=⟨[(0,_)],[(1,.aW 95 [.one (.i n0r.Me),.one (.i n0r.Regions),.one (.i n0r.Step),.one (.sl 1 (n0r.Home.map eI)),.one (.sl 1 (n0r.Heard.map eB)),.one (.sl 1 (n0r.Sets.map (eL 1 eI))),.one (.sl 1 (n0r.States.map eS)),.one (.sl 3 (x_2.map ao)),.one (.sl 1 (n0r.Done.map eB)),.one (.sl 1 (n0r.Results.map eS)),.row 2]),(2,_)]⟩) rfl ⟨fun _=>.p om,fun _=>.p om,fun _=>.p (aG rfl),fun _=>.p (ae bm rfl rfl),fun _=>.p (ae dF rfl rfl),fun _=>.p (aX aN rfl rfl rfl),fun _=>.p om,fun _=>.p (aG rfl),fun _=>.p (ae bm rfl rfl),fun _=>.p (ae gp rfl rfl),fun _=>.p (aX dT rfl rfl rfl),fun _=>.p (az (mM 0 e2).fp xU rfl rfl),fun _=>.p (aG rfl),fun _=>.p (ae bm rfl rfl),fun _=>.p (ae c9 rfl rfl),trivial⟩ ⟨_,by exact .p (fU ey rfl rfl rfl rfl (Nat.le_of_ble_eq_true rfl) rfl),rfl⟩ rfl (ab.seq (ab.aa ?_))
  refine Oc om (Oc om (Oc (aG rfl) (Oc (ae bm rfl rfl) (Oc (ae c9 rfl rfl) (Oc (aX ey rfl rfl rfl) ?_)))))
  refine af.ai ⟨[(0,_),(26,Pt 1 0),(31,.b (.one (.sl 3 (x_2.map ao))))],[(1,_),(2,_)]⟩ rfl (Oc (av kW rfl (List.length_map _)) ?_)
  obtain ⟨x_3,e3,h⟩:=aP h
  refine Oc (cA (k:=102) (enc:=eB) dK e3 (by decide) (.cons .refl .nil) rfl rfl rfl) (Oc (aG rfl) (Oc (ae bm rfl rfl) (Oc (ae eG rfl rfl) ?_)))
  refine af.bg 102 rfl (Oc (fU dd rfl rfl rfl rfl (Nat.le_of_ble_eq_true rfl) rfl) (af.ak ⟨[(0,Pt 1 0)],[(1,.aW 95 [.one (.i n0r.Me),.one (.i n0r.Regions),.one (.i n0r.Step),.one (.sl 1 (n0r.Home.map eI)),.one (.sl 1 (n0r.Heard.map eB)),.one (.sl 1 (n0r.Sets.map (eL 1 eI))),.one (.sl 1 (n0r.States.map eS)),.one (.sl 3 (x_2.map ao)),.one (.sl 1 (x_3.map eB)),.one (.sl 1 (n0r.Results.map eS)),.row 2]),(2,.row 42 7 (n0out.map ah))]⟩ rfl (ab.seq (ab.aa ?_))))
  refine Oc om (Oc (aG rfl) (Oc (ae bm rfl rfl) (Oc (ae c9 rfl rfl) (Oc (aX ey rfl rfl rfl) (Oc (av kW rfl (List.length_map _)) ?_)))))
  refine Oc om (af.ak ⟨[(0,_),(41,.b (.one (.sl 3 (x_2.map ao)))),(42,I (x_2.length:Int)),(43,I 0)],[(1,_),(2,_)]⟩ rfl (ab.block ?_))
  obtain ⟨v4,h5,h⟩:=aP h
  refine ab.bZ h5 (eU fun (out_4:List aI) (x_5:Int)=>⟨[(0,Pt 1 0),(41,.b (.one (.sl 3 (x_2.map ao)))),(42,I (x_2.length:Int)),(43,I x_5)],[(1,.aW 95 [.one (.i n0r.Me),.one (.i n0r.Regions),.one (.i n0r.Step),.one (.sl 1 (n0r.Home.map eI)),.one (.sl 1 (n0r.Heard.map eB)),.one (.sl 1 (n0r.Sets.map (eL 1 eI))),.one (.sl 1 (n0r.States.map eS)),.one (.sl 3 (x_2.map ao)),.one (.sl 1 (x_3.map eB)),.one (.sl 1 (n0r.Results.map eS)),.row 2]),(2,.row 42 7 (out_4.map ah))]⟩) [0,41,42,43] [1,2] rfl ?_
  rintro ⟨out_4,x_5⟩ o6 h7 hy8
  refine ab.seq (ab.aa ?_)
  refine Oc (aY rfl rfl) (af.ak ⟨[(0,_),(41,_),(42,_),(43,_),(44,B (decide (x_5 < (x_2.length:Int))))],[(1,_),(2,_)]⟩ rfl (ab.seq (ab.ite h7 rfl (fun _ h7=>?_) (fun _ h7=>?_))))
  ·refine ab.skip (Fin.ai ⟨[(0,_),(41,_),(42,_),(43,_)],[(1,_),(2,_)]⟩ rfl (Fin.then ?_))
   obtain ⟨v9,h10,h7⟩:=aP h7
   refine ab.ca (v:=v9) (fun (out_7:List aI)=>⟨[(0,Pt 1 0),(41,.b (.one (.sl 3 (x_2.map ao)))),(42,I (x_2.length:Int)),(43,I x_5)],[(1,.aW 95 [.one (.i n0r.Me),.one (.i n0r.Regions),.one (.i n0r.Step),.one (.sl 1 (n0r.Home.map eI)),.one (.sl 1 (n0r.Heard.map eB)),.one (.sl 1 (n0r.Sets.map (eL 1 eI))),.one (.sl 1 (n0r.States.map eS)),.one (.sl 3 (x_2.map ao)),.one (.sl 1 (x_3.map eB)),.one (.sl 1 (n0r.Results.map eS)),.row 2]),(2,.row 42 7 (out_7.map ah))]⟩) (fun z=>z) ?_ ?_
   ·refine ab.block (ab.seq (ab.aa ?_))
    obtain ⟨x_8,e11,h10⟩:=aP h10
    refine Oc (an fF (aL e11) (aB (e:=ao) e11) rfl rfl) (Oc (fl fR rfl rfl rfl) (Oc (cz (k:=103) ke rfl) (Oc (aR fR rfl rfl rfl rfl (Nat.le_of_ble_eq_true rfl) rfl) ?_)))
    refine af.ak ⟨[(0,_),(3,Pt 103 0),(41,_),(42,_),(43,_)],[(1,_),(2,_),(103,.box 59 (ao x_8))]⟩ rfl (ab.seq ?_)
    obtain ⟨x_9,e12,h10⟩:=aP h10
    refine ab.eX mixed 8 [Pt 1 0,Pt 103 1,.b (.one (.sl 1 (x_8.Bodies.map eI))),Pt 1 0,Pt 1 0,Pt 1 0,Pt 1 0,I n0r.Me] [0,3,4,41,42,43] [1,2,103,104] (s':=⟨[(0,_),(3,_),(4,.b (.row 104)),(41,_),(42,_),(43,_)],[(1,_),(2,_),(103,_),(104,.row 3 1 (x_9.map eI))]⟩) rfl ⟨fun _=>.p om,fun _=>.p (ae dE rfl rfl),fun _=>.p (ag aN rfl rfl rfl),fun _=>.p om,fun _=>.p (aG rfl),fun _=>.p (ae bm rfl rfl),fun _=>.p (ae cJ rfl rfl),fun _=>.p (aX aD rfl rfl rfl),trivial⟩ ⟨_,by exact .p (bL (own_a:=[(1,_),(2,_)]) ((jc e12).sw 51 104) te rfl ⟨rfl,rfl,trivial⟩ rfl rfl),⟨_,by exact .p oa,rfl⟩⟩ rfl (ab.seq (ab.ai ⟨[(0,_),(3,_),(4,_),(41,_),(42,_),(43,_)],[(1,_),(2,_),(103,_),(104,_)]⟩ rfl (ab.eX mixed 13 [Pt 103 0,I x_8.Owner,Pt 1 0,Pt 1 0,Pt 1 0,Pt 1 0,I n0r.Me,B (decide (x_8.Owner ≠ n0r.Me)),B (decide (x_8.Owner ≠ n0r.Me)),.opt (decide (x_8.Owner ≠ n0r.Me)) (.row 104),.opt (decide (x_8.Owner ≠ n0r.Me)) (.one (.i (x_9.length:Int))),.opt (decide (x_8.Owner ≠ n0r.Me)) (.one (.bool (decide (0 < (x_9.length:Int))))),B ((decide (x_8.Owner ≠ n0r.Me)) && (decide (0 < (x_9.length:Int))))] [0,3,4,41,42,43,68] [1,2,103,104] (s':=⟨[(0,_),(3,_),(4,_),(41,_),(42,_),(43,_),(68,B ((decide (x_8.Owner ≠ n0r.Me)) && (decide (0 < (x_9.length:Int)))))],[(1,_),(2,_),(103,_),(104,_)]⟩) rfl ⟨fun _=>.p (ae fJ rfl rfl),fun _=>.p (ag aD rfl rfl rfl),fun _=>.p om,fun _=>.p (aG rfl),fun _=>.p (ae bm rfl rfl),fun _=>.p (ae cJ rfl rfl),fun _=>.p (aX aD rfl rfl rfl),fun _=>.p (cY rfl rfl),fun _=>.p om,fun _=>by exact .guard (decide (x_8.Owner ≠ n0r.Me)) 1 [] (.plain rfl) (dq _) rfl rfl (fun g13=>trivial) (fun g13=>om),fun _=>by exact .guard (decide (x_8.Owner ≠ n0r.Me)) 2 [65] (.plain rfl) (dq _) rfl rfl (fun g14=>⟨g14,trivial⟩) (fun g14=>fN bR rfl rfl (List.length_map _)),fun _=>by exact .guard (decide (x_8.Owner ≠ n0r.Me)) 2 [66] (.plain rfl) (dq _) rfl rfl (fun g15=>⟨g15,trivial⟩) (fun g15=>gZ rfl rfl),fun _=>.p (aT (fun e=>e) rfl rfl rfl rfl),trivial⟩ rfl rfl ?_)))
    refine ab.ite h10 rfl (fun _ h10=>?_) (fun _ h10=>?_)
    ·refine ab.bg 104 rfl (ab.ai ⟨[(0,Pt 1 0),(3,Pt 103 0),(4,.b (.one (.sl 1 (x_9.map eI)))),(41,.b (.one (.sl 3 (x_2.map ao)))),(42,I (x_2.length:Int)),(43,I x_5)],[(1,.aW 95 [.one (.i n0r.Me),.one (.i n0r.Regions),.one (.i n0r.Step),.one (.sl 1 (n0r.Home.map eI)),.one (.sl 1 (n0r.Heard.map eB)),.one (.sl 1 (n0r.Sets.map (eL 1 eI))),.one (.sl 1 (n0r.States.map eS)),.one (.sl 3 (x_2.map ao)),.one (.sl 1 (x_3.map eB)),.one (.sl 1 (n0r.Results.map eS)),.row 2]),(2,.row 42 7 (out_4.map ah)),(103,.box 59 (ao x_8))]⟩ rfl ?_)
     obtain ⟨x_10,e16,h10⟩:=aP h10
     obtain ⟨x_11,e17,h10⟩:=aP h10
     refine ab.fy mixed 12 [Pt 1 0,Pt 103 0,I x_8.Owner,.b (.one (.sl 1 (x_9.map eI))),Pt 1 0,Pt 1 0,Pt 1 0,Pt 1 6,.b (.one (.sl 1 (n0r.States.map eS))),.b (.one (.sl 1 (x_9.map eI))),.b (.one (.sl 1 (x_10.map eS))),.b (.agg [.i 2,.i 0,.i 0,.i x_8.Owner,.sl 1 ([].map (eL 1 eI)),.sl 1 (x_9.map eI),.sl 1 (x_10.map eS)])] [0,41,42,43] [1,2] (s':=⟨[(0,_),(41,_),(42,_),(43,_)],[(1,_),(2,.row 42 7 (x_11.map ah))]⟩) rfl ⟨fun _=>.p om,fun _=>.p (ae fJ rfl rfl),fun _=>.p (ag aD rfl rfl rfl),fun _=>.p om,fun _=>.p om,fun _=>.p (aG rfl),fun _=>.p (ae bm rfl rfl),fun _=>.p (ae gO rfl rfl),fun _=>.p (aX b6 rfl rfl rfl),fun _=>.p om,fun _=>.p (az (jR 0 e16).fp u4 rfl rfl),fun _=>.p (bD.jH (.same (.same (.same (.same (.sl (size:=1) (by decide) (.same (.same (.nil)))))))) (cc kP rfl rfl)),trivial⟩ ⟨_,by exact .p (bL (own_a:=[(1,_),(2,_)]) (ik e17) u9 rfl ⟨rfl,rfl,trivial⟩ rfl rfl),rfl⟩ rfl (Fin.ar ?_)
     exact Fin.join [0,41,42,43] [1,2] x_11 (Option.some.inj h10) rfl
    ·refine ab.skip (Fin.ar ?_)
     exact Fin.join [0,41,42,43] [1,2] out_4 (Option.some.inj h10) rfl
   ·rintro out_7 hv
    subst v9
    refine ab.aa (Oc (bh rfl rfl) (Oc om ?_))
    refine af.nil ?_
    exact Fin.bp [0,41,42,43] [1,2] (out_7,IntKind.i64.wrap (x_5 + 1)) (Option.some.inj h7) rfl
  ·refine ab.exit (Fin.aq ?_)
   obtain rfl:=hy8 _ (Option.some.inj h7).symm
   refine Fin.aq (Fin.aE ?_)
   obtain rfl:=Option.some.inj h
   refine Fin.ai ⟨[],[(1,_),(2,_)]⟩ rfl ?_
   exact Fin.result [] (.inr rfl) rfl (.nil) ⟨rfl,rfl⟩
def dL (F:Nat) (me0:Int) (regions0:Int) (step0:Int) (home0:List Int) (sets0:List (List Int)) (states0:List de):Option (Round × (List aI) × Int) :=
 bu (((decide (regions0 < 1)) || (decide (16 < regions0))) || (decide (me0 < 0))) fun x_1=>(aK (!((x_1 || (decide (regions0 ≤ me0))) || (decide (step0 < 0)))) (eW F home0 regions0)).bind fun x_2=>bu (((x_1 || (decide (regions0 ≤ me0))) || (decide (step0 < 0))) || (!x_2)) fun x_3=>(aK (!x_3) (cU F home0 sets0)).bind fun x_4=>bu ((x_3 || (!x_4)) || (decide ((states0.length:Int) ≠ (home0.length:Int)))) fun x_5=>if x_5 = true then (some ((⟨0,0,0,[],[],[],[],[],[],[]⟩:Round),[],1)) else (Option.bind (iter F (fun x_6=>if (decide (x_6 < (home0.length:Int))) = true then ((aV home0 x_6).bind fun x_7=>(aV states0 x_6).bind fun x_8=>if ((decide (x_8 ≠ [])) != (decide (x_7 = me0))) = true then (some (.inr (.inr ((⟨0,0,0,[],[],[],[],[],[],[]⟩:Round),[],1)))) else (some (.inl (IntKind.i64.wrap (x_6 + 1))))) else (some (.inr (.inl ())))) 0) (bG (fun _=>Option.bind (mk? (false:Bool) regions0 regions0) (fun x_9=>(cT F [sets0]).bind fun x_10=>Option.bind (mk? ([]:de) (home0.length:Int) (home0.length:Int)) (fun x_11=>(aV x_9 me0).bind fun x_12=>Option.bind (iter F (wJ fun nf4_16 nf9_17 out_18 x_19=>if (decide (x_19 < regions0)) = true then (Option.bind (if (decide (x_19 ≠ me0)) = true then ((cW F (⟨1,0,0,x_19,x_10,[],[]⟩:aI) (⟨me0,regions0,step0,home0,nf4_16,x_10,states0,[],[],nf9_17⟩:Round) out_18).bind fun x_24=>some x_24) else (some out_18)) (fun out_23=>some (.inl (nf4_16,nf9_17,out_23,IntKind.i64.wrap (x_19 + 1))))) else (some (.inr (nf4_16,nf9_17,out_18)))) (x_9.set (me0:Int).toNat true,x_11,[],0)) (rf fun nf4_13 nf9_14 out_15=>Option.bind (cX F (⟨me0,regions0,step0,home0,nf4_13,x_10,states0,[],[],nf9_14⟩:Round) out_15) (eU fun x_25 x_26=>some (x_25,x_26,0)))))) (fun y=>some y)))
theorem jW (kr0:Nat) {F:Nat} {me0:Int} {regions0:Int} {step0:Int} {home0:List Int} {sets0:List (List Int)} {states0:List de} {r:Round × (List aI) × Int} (h:dL F me0 regions0 step0 home0 sets0 states0 = some r):aA Try.prog [] 11 [] [.one (.i me0),.one (.i regions0),.one (.i step0),.one (.sl 1 (home0.map eI)),.one (.sl 1 (sets0.map (eL 1 eI))),.one (.sl 1 (states0.map eS))] (Is [(kr0,.row 42 7 (r.2.1.map ah))] (.gR [.agg (ay r.1),.row kr0,.one (.i r.2.2)])):=by
 unfold dL at h
 refine aA.intro 126 Try.func11 Try.ntmps11 rfl (by simp) fun E=>?_
 show ab _ E ⟨126,[],[],[]⟩ _ ⟨[(0,I me0),(1,I regions0),(2,I step0),(3,.b (.one (.sl 1 (home0.map eI)))),(4,.b (.one (.sl 1 (sets0.map (eL 1 eI))))),(5,.b (.one (.sl 1 (states0.map eS))))],[]⟩ _
 refine ab.seq (ab.aa ?_)
 refine Oc (cz (k:=101) hC rfl) (Oc oa (Oc oa ?_))
 refine af.ak ⟨[(0,I me0),(1,I regions0),(2,I step0),(3,.b (.one (.sl 1 (home0.map eI)))),(4,.b (.one (.sl 1 (sets0.map (eL 1 eI))))),(5,.b (.one (.sl 1 (states0.map eS)))),(12,Pt 101 0)],[(101,.box 31 [.i 0,.i 0,.i 0,.nil,.nil,.nil,.nil,.nil,.nil,.nil])]⟩ rfl (ab.seq (ab.seq (ab.aa ?_)))
 refine Oc om (Oc (aY rfl rfl) (Oc om ?_))
 refine bF (!(decide (regions0 < 1))) [] (fun g1=>trivial) (fun g1=>om) (bF (!(decide (regions0 < 1))) [22] (fun g2=>by exact ⟨g2,trivial⟩) (fun g2=>gZ rfl rfl) (Oc (aF (fun e=>by first | (rw [e]; rfl) | (simp only at e; rw [e]; rfl)) rfl rfl rfl rfl) (Oc om ?_)))
 refine af.ai ⟨[(0,_),(1,_),(2,_),(3,_),(4,_),(5,_),(12,_),(25,B ((decide (regions0 < 1)) || (decide (16 < regions0))))],[(101,_)]⟩ rfl (bF (!((decide (regions0 < 1)) || (decide (16 < regions0)))) [] (fun g3=>trivial) (fun g3=>om) (bF (!((decide (regions0 < 1)) || (decide (16 < regions0)))) [26] (fun g4=>by exact ⟨g4,trivial⟩) (fun g4=>aY rfl rfl) (af.fQ h rfl (aF (fun e=>by first | (rw [e]; rfl) | (simp only at e; rw [e]; rfl)) rfl rfl rfl rfl) (fun x_1 h=>?_))))
 refine Oc om (bF (!x_1) [] (fun g5=>by exact trivial) (fun g5=>om) (bF (!x_1) [] (fun g6=>by exact trivial) (fun g6=>om) (bF (!x_1) [30,31] (fun g7=>by exact ⟨g7,g7,trivial⟩) (fun g7=>gk rfl rfl) (Oc (aF (fun e=>by first | (rw [e]; rfl) | (simp only at e; rw [e]; rfl)) rfl rfl rfl rfl) (af.ai ⟨[(0,_),(1,_),(2,_),(3,_),(4,_),(5,_),(12,_),(33,B (x_1 || (decide (regions0 ≤ me0))))],[(101,_)]⟩ rfl ?_)))))
 refine Oc om (bF (!(x_1 || (decide (regions0 ≤ me0)))) [] (fun g8=>by exact trivial) (fun g8=>om) (bF (!(x_1 || (decide (regions0 ≤ me0)))) [35] (fun g9=>by exact ⟨g9,trivial⟩) (fun g9=>aY rfl rfl) (Oc (aF (fun e=>by first | (rw [e]; rfl) | (simp only at e; rw [e]; rfl)) rfl rfl rfl rfl) (Oc om ?_))))
 refine bF (!((x_1 || (decide (regions0 ≤ me0))) || (decide (step0 < 0)))) [] (fun g10=>trivial) (fun g10=>om) (bF (!((x_1 || (decide (regions0 ≤ me0))) || (decide (step0 < 0)))) [] (fun g11=>by exact trivial) (fun g11=>om) (af.ai ⟨[(0,_),(1,_),(2,_),(3,_),(4,_),(5,_),(12,_),(38,B ((x_1 || (decide (regions0 ≤ me0))) || (decide (step0 < 0)))),(39,.opt (!((x_1 || (decide (regions0 ≤ me0))) || (decide (step0 < 0)))) (.one (.sl 1 (home0.map eI)))),(40,.opt (!((x_1 || (decide (regions0 ≤ me0))) || (decide (step0 < 0)))) (.one (.i regions0)))],[(101,_)]⟩ rfl ?_))
 obtain ⟨x_2,e13,h⟩:=aP h
 refine bF (!((x_1 || (decide (regions0 ≤ me0))) || (decide (step0 < 0)))) [39,40] (fun g12=>⟨g12,g12,trivial⟩) (fun g12=>az (p8 (gc e13 g12)) goes41 rfl rfl) (bF (!((x_1 || (decide (regions0 ≤ me0))) || (decide (step0 < 0)))) [41] (fun g14=>⟨g14,trivial⟩) (fun g14=>cL rfl) (af.fQ h rfl (aF (fun e=>by first | (rw [e]; rfl) | (simp only at e; rw [e]; rfl)) rfl rfl rfl rfl) (fun x_3 h=>?_)))
 refine Oc om (bF (!x_3) [] (fun g15=>by exact trivial) (fun g15=>om) (bF (!x_3) [] (fun g16=>by exact trivial) (fun g16=>om) (af.ai ⟨[(0,_),(1,_),(2,_),(3,_),(4,_),(5,_),(12,_),(44,B x_3),(45,.opt (!x_3) (.one (.sl 1 (home0.map eI)))),(46,.opt (!x_3) (.one (.sl 1 (sets0.map (eL 1 eI)))))],[(101,_)]⟩ rfl ?_)))
 obtain ⟨x_4,e18,h⟩:=aP h
 refine bF (!x_3) [45,46] (fun g17=>⟨g17,g17,trivial⟩) (fun g17=>az (gg (gc e18 g17)) tf rfl rfl) (bF (!x_3) [47] (fun g19=>⟨g19,trivial⟩) (fun g19=>cL rfl) (Oc (aF (fun e=>by first | (rw [e]; rfl) | (simp only at e; rw [e]; rfl)) rfl rfl rfl rfl) (Oc om ?_)))
 refine bF (!(x_3 || (!x_4))) [] (fun g20=>trivial) (fun g20=>om) (bF (!(x_3 || (!x_4))) [51] (fun g21=>by exact ⟨g21,trivial⟩) (fun g21=>av lM rfl (List.length_map _)) (bF (!(x_3 || (!x_4))) [] (fun g22=>by exact trivial) (fun g22=>om) (af.ai ⟨[(0,_),(1,_),(2,_),(3,_),(4,_),(5,_),(12,_),(50,B (x_3 || (!x_4))),(52,.opt (!(x_3 || (!x_4))) (.one (.i (states0.length:Int)))),(53,.opt (!(x_3 || (!x_4))) (.one (.sl 1 (home0.map eI))))],[(101,_)]⟩ rfl (bF (!(x_3 || (!x_4))) [53] (fun g23=>by exact ⟨g23,trivial⟩) (fun g23=>av bR rfl (List.length_map _)) (bF (!(x_3 || (!x_4))) [52,54] (fun g24=>by exact ⟨g24,g24,trivial⟩) (fun g24=>cY rfl rfl) ?_)))))
 refine af.fQ h rfl (aF (fun e=>by first | (rw [e]; rfl) | (simp only at e; rw [e]; rfl)) rfl rfl rfl rfl) (fun x_5 h=>?_)
 refine af.ak ⟨[(0,_),(1,_),(2,_),(3,_),(4,_),(5,_),(12,_),(56,B x_5)],[(101,_)]⟩ rfl (ab.ite h rfl (fun _ h=>?_) (fun _ h=>?_))
 ·refine ab.seq (ab.aa ?_)
  refine Oc (bD.jH (.same (.same (.same (.sl (size:=1) (by decide) (.same (.sl (size:=1) (by decide) (.sl (size:=1) (by decide) (.sl (size:=3) (by decide) (.sl (size:=1) (by decide) (.same (.nil))))))))))) (cc iz rfl rfl)) (Oc (aR aU rfl rfl rfl rfl (Nat.le_of_ble_eq_true rfl) rfl) (Oc oa (Oc oa ?_)))
  refine af.ak ⟨[(12,_),(13,.b (.one (.nil))),(14,I 1)],[(101,.box 31 [.i 0,.i 0,.i 0,.sl 1 ([].map eI),.nil,.sl 1 ([].map (eL 1 eI)),.sl 1 ([].map eS),.sl 3 ([].map ao),.sl 1 ([].map eB),.nil])]⟩ rfl (ab.ret (Fin.aw ?_))
  obtain rfl:=Option.some.inj h
  refine Fin.ai ⟨[(12,_),(13,_),(14,_)],[(101,_)]⟩ rfl (Fin.bE 101 4 1 rfl rfl (by decide) (Fin.bE 101 9 1 rfl rfl (by decide) (Fin.dc 13 102 7 42 rfl (by decide) rfl (Fin.dD 102 kr0 [.agg [.i 0,.i 0,.i 0,.sl 1 ([].map eI),.sl 1 ([].map eB),.sl 1 ([].map (eL 1 eI)),.sl 1 ([].map eS),.sl 3 ([].map ao),.sl 1 ([].map eB),.sl 1 ([].map eS)],.row 102,.one (.i 1)] (.inl rfl) rfl (.cons (.agg aU rfl rfl rfl rfl) (.cons (.tmp rfl) (.cons (.tmp rfl) .nil))) rfl rfl rfl rfl ⟨rfl,rfl⟩))))
 ·refine ab.skip (Fin.ai ⟨[(0,_),(1,_),(2,_),(3,_),(4,_),(5,_),(12,_)],[(101,_)]⟩ rfl (Fin.then ?_))
  obtain ⟨v25,h26,h⟩:=aP h
  refine ab.ca (v:=v25) (fun (_:Unit)=>⟨[(0,I me0),(1,I regions0),(2,I step0),(3,.b (.one (.sl 1 (home0.map eI)))),(4,.b (.one (.sl 1 (sets0.map (eL 1 eI))))),(5,.b (.one (.sl 1 (states0.map eS)))),(12,Pt 101 0)],[(101,.box 31 [.i 0,.i 0,.i 0,.nil,.nil,.nil,.nil,.nil,.nil,.nil])]⟩) (fun z=>.inl z) ?_ ?_
  ·refine ab.seq (ab.aa ?_)
   refine Oc om (Oc (av bR rfl (List.length_map _)) (Oc om ?_))
   refine af.ak ⟨[(0,_),(1,_),(2,_),(3,_),(4,_),(5,_),(12,_),(58,.b (.one (.sl 1 (home0.map eI)))),(59,I (home0.length:Int)),(60,I 0)],[(101,_)]⟩ rfl (ab.block (ab.bZ h26 (fun (x_6:Int)=>⟨[(0,I me0),(1,I regions0),(2,I step0),(3,.b (.one (.sl 1 (home0.map eI)))),(4,.b (.one (.sl 1 (sets0.map (eL 1 eI))))),(5,.b (.one (.sl 1 (states0.map eS)))),(12,Pt 101 0),(58,.b (.one (.sl 1 (home0.map eI)))),(59,I (home0.length:Int)),(60,I x_6)],[(101,.box 31 [.i 0,.i 0,.i 0,.nil,.nil,.nil,.nil,.nil,.nil,.nil])]⟩) [0,1,2,3,4,5,12,58,59,60] [101] rfl ?_))
   rintro x_6 o27 h28 hy29
   refine ab.seq (ab.aa ?_)
   refine Oc (aY rfl rfl) (af.ak ⟨[(0,_),(1,_),(2,_),(3,_),(4,_),(5,_),(12,_),(58,_),(59,_),(60,_),(61,B (decide (x_6 < (home0.length:Int))))],[(101,_)]⟩ rfl (ab.seq (ab.ite h28 rfl (fun _ h28=>?_) (fun _ h28=>?_))))
   ·refine ab.skip (Fin.ai ⟨[(0,_),(1,_),(2,_),(3,_),(4,_),(5,_),(12,_),(58,_),(59,_),(60,_)],[(101,_)]⟩ rfl (Fin.then (ab.seq (ab.block (ab.seq (ab.aa ?_))))))
    refine Oc om ?_
    obtain ⟨x_7,e30,h28⟩:=aP h28
    refine Oc (an aQ (aL e30) (aB (e:=eI) e30) rfl rfl) (Oc (au aD rfl rfl) (Oc oa (Oc oa ?_)))
    refine af.ak ⟨[(0,_),(1,_),(2,_),(3,_),(4,_),(5,_),(12,_),(15,I x_6),(16,I x_7),(58,_),(59,_),(60,_)],[(101,_)]⟩ rfl (ab.seq (ab.aa ?_))
    refine Oc om (Oc om ?_)
    obtain ⟨x_8,e31,h28⟩:=aP h28
    refine Oc (an cw (aL e31) (aB (e:=eS) e31) rfl rfl) (Oc (au fG rfl rfl) (Oc (pg rfl rfl) (Oc om (Oc om (Oc (di rfl rfl) ?_)))))
    refine Oc (lU xr rfl rfl) (af.ak ⟨[(0,_),(1,_),(2,_),(3,_),(4,_),(5,_),(12,_),(58,_),(59,_),(60,_),(73,B ((decide (x_8 ≠ [])) != (decide (x_7 = me0))))],[(101,_)]⟩ rfl (ab.ite h28 rfl (fun _ h28=>?_) (fun _ h28=>?_)))
    ·refine ab.seq (ab.aa ?_)
     refine Oc (bD.jH (.same (.same (.same (.sl (size:=1) (by decide) (.same (.sl (size:=1) (by decide) (.sl (size:=1) (by decide) (.sl (size:=3) (by decide) (.sl (size:=1) (by decide) (.same (.nil))))))))))) (cc iz rfl rfl)) (Oc (aR aU rfl rfl rfl rfl (Nat.le_of_ble_eq_true rfl) rfl) (Oc oa (Oc oa ?_)))
     refine af.ak ⟨[(12,_),(13,.b (.one (.nil))),(14,I 1)],[(101,.box 31 [.i 0,.i 0,.i 0,.sl 1 ([].map eI),.nil,.sl 1 ([].map (eL 1 eI)),.sl 1 ([].map eS),.sl 3 ([].map ao),.sl 1 ([].map eB),.nil])]⟩ rfl (ab.ret (Fin.aJ (Fin.aw ?_)))
     obtain rfl:=hy29 _ (Option.some.inj h28).symm
     refine Fin.aw (Fin.aJ (Fin.aw ?_))
     obtain rfl:=Option.some.inj h
     refine Fin.ai ⟨[(12,_),(13,_),(14,_)],[(101,_)]⟩ rfl (Fin.bE 101 4 1 rfl rfl (by decide) (Fin.bE 101 9 1 rfl rfl (by decide) (Fin.dc 13 103 7 42 rfl (by decide) rfl (Fin.dD 103 kr0 [.agg [.i 0,.i 0,.i 0,.sl 1 ([].map eI),.sl 1 ([].map eB),.sl 1 ([].map (eL 1 eI)),.sl 1 ([].map eS),.sl 3 ([].map ao),.sl 1 ([].map eB),.sl 1 ([].map eS)],.row 103,.one (.i 1)] (.inl rfl) rfl (.cons (.agg aU rfl rfl rfl rfl) (.cons (.tmp rfl) (.cons (.tmp rfl) .nil))) rfl rfl rfl rfl ⟨rfl,rfl⟩))))
    ·refine ab.skip (Fin.ar (Fin.ai ⟨[(0,_),(1,_),(2,_),(3,_),(4,_),(5,_),(12,_),(58,_),(59,_),(60,_)],[(101,_)]⟩ rfl (Fin.then (ab.aa ?_))))
     refine Oc (bh rfl rfl) (Oc om ?_)
     refine af.nil ?_
     exact Fin.bp [0,1,2,3,4,5,12,58,59,60] [101] (IntKind.i64.wrap (x_6 + 1)) (Option.some.inj h28) rfl
   ·refine ab.exit (Fin.aq ?_)
    obtain rfl:=hy29 _ (Option.some.inj h28).symm
    refine Fin.aq (Fin.aE ?_)
    exact Fin.join [0,1,2,3,4,5,12] [101] () rfl rfl
  ·rintro _ hv
   subst v25
   refine ab.seq (ab.ai ⟨[(0,_),(1,_),(2,_),(3,_),(4,_),(5,_),(12,_)],[(101,_)]⟩ rfl ?_)
   obtain ⟨x_9,e32,h⟩:=aP h
   obtain ⟨x_10,e33,h⟩:=aP h
   obtain ⟨x_11,e34,h⟩:=aP h
   refine ab.ff mixed [false,false,false,false,false,true,false,false,false,false,false,false,true,false,false,true,false] [I me0,I regions0,I step0,.b (.one (.sl 1 (home0.map eI))),I regions0,.b (.row 103),.b (.one (.sl 1 (sets0.map (eL 1 eI)))),.b (.one (.sl 1 ([sets0].map (eL 1 (eL 1 eI))))),.b (.one (.sl 1 (x_10.map (eL 1 eI)))),.b (.one (.sl 1 (states0.map eS))),.b (.one (.sl 1 (home0.map eI))),I (home0.length:Int),.b (.row 105),.gw [.one (.i me0),.one (.i regions0),.one (.i step0),.one (.sl 1 (home0.map eI)),.row 103,.one (.sl 1 (x_10.map (eL 1 eI))),.one (.sl 1 (states0.map eS)),.one (.sl 3 ([].map ao)),.one (.sl 1 ([].map eB)),.row 105],.gw [.one (.i me0),.one (.i regions0),.one (.i step0),.one (.sl 1 (home0.map eI)),.row 103,.one (.sl 1 (x_10.map (eL 1 eI))),.one (.sl 1 (states0.map eS)),.one (.sl 3 ([].map ao)),.one (.sl 1 ([].map eB)),.row 105,.one (.nil)],Pt 106 0,Pt 106 0] [⟨[false,false,false,false,false,false,false,false,false,false,false,false,false,false,false,false,false],[(0,I me0),(1,I regions0),(2,I step0),(3,.b (.one (.sl 1 (home0.map eI)))),(4,.b (.one (.sl 1 (sets0.map (eL 1 eI))))),(5,.b (.one (.sl 1 (states0.map eS)))),(12,Pt 101 0)],[(101,.box 31 [.i 0,.i 0,.i 0,.nil,.nil,.nil,.nil,.nil,.nil,.nil])],[true,true,true,true,true,true,true,true,true,true,true,true,true,true,true,true,true],[],[13,14,15,16]⟩,⟨[false,false,false,false,false,true,false,false,false,false,false,false,false,false,false,false,false],[(0,I me0),(1,I regions0),(2,I step0),(3,.b (.one (.sl 1 (home0.map eI)))),(4,.b (.one (.sl 1 (sets0.map (eL 1 eI))))),(5,.b (.one (.sl 1 (states0.map eS)))),(12,Pt 101 0)],[(101,.box 31 [.i 0,.i 0,.i 0,.nil,.nil,.nil,.nil,.nil,.nil,.nil]),(103,.row 4 1 (x_9.map eB))],[true,true,true,true,true,true,true,true,true,true,true,true,true,true,true,true,true],[4,5],[13,14,15,16]⟩,⟨[false,false,false,false,false,false,false,false,false,false,false,false,true,false,false,false,false],[(0,I me0),(1,I regions0),(2,I step0),(3,.b (.one (.sl 1 (home0.map eI)))),(4,.b (.one (.sl 1 (sets0.map (eL 1 eI))))),(5,.b (.one (.sl 1 (states0.map eS)))),(12,Pt 101 0)],[(101,.box 31 [.i 0,.i 0,.i 0,.nil,.nil,.nil,.nil,.nil,.nil,.nil]),(105,.row 9 1 (x_11.map eS))],[true,true,true,true,true,true,true,true,true,true,true,true,true,true,true,true,true],[10,11,12],[13,14,15,16]⟩,⟨[false,false,false,false,false,true,false,false,false,false,false,false,true,false,false,false,false],[(0,I me0),(1,I regions0),(2,I step0),(3,.b (.one (.sl 1 (home0.map eI)))),(4,.b (.one (.sl 1 (sets0.map (eL 1 eI))))),(5,.b (.one (.sl 1 (states0.map eS)))),(12,Pt 101 0)],[(101,.box 31 [.i 0,.i 0,.i 0,.nil,.nil,.nil,.nil,.nil,.nil,.nil]),(103,.row 4 1 (x_9.map eB)),(105,.row 9 1 (x_11.map eS))],[true,true,true,true,true,true,true,true,true,true,true,true,true,true,true,true,true],[4,5,10,11,12],[16]⟩,⟨[false,false,false,false,false,true,false,false,false,false,false,false,true,false,false,true,false],[(0,I me0),(1,I regions0),(2,I step0),(3,.b (.one (.sl 1 (home0.map eI)))),(4,.b (.one (.sl 1 (sets0.map (eL 1 eI))))),(5,.b (.one (.sl 1 (states0.map eS)))),(12,Pt 101 0)],[(101,.box 31 [.i 0,.i 0,.i 0,.nil,.nil,.nil,.nil,.nil,.nil,.nil]),(103,.row 4 1 (x_9.map eB)),(105,.row 9 1 (x_11.map eS)),(106,.aW 95 [.one (.i me0),.one (.i regions0),.one (.i step0),.one (.sl 1 (home0.map eI)),.row 103,.one (.sl 1 (x_10.map (eL 1 eI))),.one (.sl 1 (states0.map eS)),.one (.sl 3 ([].map ao)),.one (.sl 1 ([].map eB)),.row 105,.one (.nil)])],[true,true,true,true,true,true,true,true,true,true,true,true,true,true,true,true,true],[0,1,2,3,4,5,6,7,8,9,10,11,12,13,14,15],[]⟩] rfl (⟨by kernel_rfl,⟨⟨I me0,fun _=>rfl,fun _=>.p (by exact ax rfl)⟩,⟨I regions0,fun _=>rfl,fun _=>.p (by exact ax rfl)⟩,⟨I step0,fun _=>rfl,fun _=>.p (by exact ax rfl)⟩,⟨.b (.one (.sl 1 (home0.map eI))),fun _=>rfl,fun _=>.p (by exact ax rfl)⟩,⟨I regions0,fun _=>rfl,fun _=>.p (by exact ax rfl)⟩,⟨_,[103],.b (.row 103),rfl,fun _=>rfl,rfl,rfl,fun _=>.jG [101,103] (by exact .p (by exact cA (k:=103) (enc:=eB) dK e32 (by decide) (.cons .refl .nil) rfl rfl rfl)) (by exact rfl)⟩,⟨.b (.one (.sl 1 (sets0.map (eL 1 eI)))),fun _=>rfl,fun _=>.p (by exact ax rfl)⟩,⟨.b (.one (.sl 1 ([sets0].map (eL 1 (eL 1 eI))))),fun _=>rfl,fun _=>.p (by exact cg (es:=[sets0].map (eL 1 (eL 1 eI))) o7 rfl rfl (bc fun _=>rfl) rfl (by decide) (by decide))⟩,⟨.b (.one (.sl 1 (x_10.map (eL 1 eI)))),fun _=>rfl,fun _=>.p (by exact az (eZ e33) qd rfl rfl)⟩,⟨.b (.one (.sl 1 (states0.map eS))),fun _=>rfl,fun _=>.p (by exact ax rfl)⟩,⟨.b (.one (.sl 1 (home0.map eI))),fun _=>rfl,fun _=>.p (by exact ax rfl)⟩,⟨I (home0.length:Int),fun _=>rfl,fun _=>.p (by exact av bR rfl (List.length_map _))⟩,⟨_,[105],.b (.row 105),rfl,fun _=>rfl,rfl,rfl,fun _=>.jG [101,105] (by exact .p (by exact cA (k:=105) (enc:=eS) cw e34 (by decide) (.cons .refl .nil) rfl rfl rfl)) (by exact rfl)⟩,trivial,trivial,trivial,trivial,trivial⟩,⟨by kernel_rfl,⟨⟨I me0,fun _=>rfl,fun _=>.p (by exact ax rfl)⟩,⟨I regions0,fun _=>rfl,fun _=>.p (by exact ax rfl)⟩,⟨I step0,fun _=>rfl,fun _=>.p (by exact ax rfl)⟩,⟨.b (.one (.sl 1 (home0.map eI))),fun _=>rfl,fun _=>.p (by exact ax rfl)⟩,trivial,trivial,⟨.b (.one (.sl 1 (sets0.map (eL 1 eI)))),fun _=>rfl,fun _=>.p (by exact ax rfl)⟩,⟨.b (.one (.sl 1 ([sets0].map (eL 1 (eL 1 eI))))),fun _=>rfl,fun _=>.p (by exact cg (es:=[sets0].map (eL 1 (eL 1 eI))) o7 rfl rfl (bc fun _=>rfl) rfl (by decide) (by decide))⟩,⟨.b (.one (.sl 1 (x_10.map (eL 1 eI)))),fun _=>rfl,fun _=>.p (by exact az (eZ e33) qd rfl rfl)⟩,⟨.b (.one (.sl 1 (states0.map eS))),fun _=>rfl,fun _=>.p (by exact ax rfl)⟩,⟨.b (.one (.sl 1 (home0.map eI))),fun _=>rfl,fun _=>.p (by exact ax rfl)⟩,⟨I (home0.length:Int),fun _=>rfl,fun _=>.p (by exact av bR rfl (List.length_map _))⟩,⟨_,[105],.b (.row 105),rfl,fun _=>rfl,rfl,rfl,fun _=>.jG [101,103,105] (by exact .p (by exact cA (k:=105) (enc:=eS) cw e34 (by decide) (.cons .refl .nil) rfl rfl rfl)) (by exact rfl)⟩,trivial,trivial,trivial,trivial,trivial⟩,⟨by kernel_rfl,⟨⟨I me0,fun _=>rfl,fun _=>.p (by exact ax rfl)⟩,⟨I regions0,fun _=>rfl,fun _=>.p (by exact ax rfl)⟩,⟨I step0,fun _=>rfl,fun _=>.p (by exact ax rfl)⟩,⟨.b (.one (.sl 1 (home0.map eI))),fun _=>rfl,fun _=>.p (by exact ax rfl)⟩,⟨I regions0,fun _=>rfl,fun _=>.p (by exact ax rfl)⟩,⟨_,[103],.b (.row 103),rfl,fun _=>rfl,rfl,rfl,fun _=>.jG [101,103,105] (by exact .p (by exact cA (k:=103) (enc:=eB) dK e32 (by decide) (.cons .refl .nil) rfl rfl rfl)) (by exact rfl)⟩,⟨.b (.one (.sl 1 (sets0.map (eL 1 eI)))),fun _=>rfl,fun _=>.p (by exact ax rfl)⟩,⟨.b (.one (.sl 1 ([sets0].map (eL 1 (eL 1 eI))))),fun _=>rfl,fun _=>.p (by exact cg (es:=[sets0].map (eL 1 (eL 1 eI))) o7 rfl rfl (bc fun _=>rfl) rfl (by decide) (by decide))⟩,⟨.b (.one (.sl 1 (x_10.map (eL 1 eI)))),fun _=>rfl,fun _=>.p (by exact az (eZ e33) qd rfl rfl)⟩,⟨.b (.one (.sl 1 (states0.map eS))),fun _=>rfl,fun _=>.p (by exact ax rfl)⟩,trivial,trivial,trivial,trivial,trivial,trivial,trivial,trivial⟩,⟨by kernel_rfl,⟨⟨I me0,fun _=>rfl,fun _=>.p (by exact ax rfl)⟩,⟨I regions0,fun _=>rfl,fun _=>.p (by exact ax rfl)⟩,⟨I step0,fun _=>rfl,fun _=>.p (by exact ax rfl)⟩,⟨.b (.one (.sl 1 (home0.map eI))),fun _=>rfl,fun _=>.p (by exact ax rfl)⟩,trivial,trivial,⟨.b (.one (.sl 1 (sets0.map (eL 1 eI)))),fun _=>rfl,fun _=>.p (by exact ax rfl)⟩,⟨.b (.one (.sl 1 ([sets0].map (eL 1 (eL 1 eI))))),fun _=>rfl,fun _=>.p (by exact cg (es:=[sets0].map (eL 1 (eL 1 eI))) o7 rfl rfl (bc fun _=>rfl) rfl (by decide) (by decide))⟩,⟨.b (.one (.sl 1 (x_10.map (eL 1 eI)))),fun _=>rfl,fun _=>.p (by exact az (eZ e33) qd rfl rfl)⟩,⟨.b (.one (.sl 1 (states0.map eS))),fun _=>rfl,fun _=>.p (by exact ax rfl)⟩,trivial,trivial,trivial,⟨.gw [.one (.i me0),.one (.i regions0),.one (.i step0),.one (.sl 1 (home0.map eI)),.row 103,.one (.sl 1 (x_10.map (eL 1 eI))),.one (.sl 1 (states0.map eS)),.one (.sl 3 ([].map ao)),.one (.sl 1 ([].map eB)),.row 105],fun _=>rfl,fun _=>.p (by exact bD.nilX (.same (.same (.same (.same (.same (.same (.same (.sl (size:=3) (by decide) (.sl (size:=1) (by decide) (.same (.nil))))))))))) (lf iz rfl rfl))⟩,⟨.gw [.one (.i me0),.one (.i regions0),.one (.i step0),.one (.sl 1 (home0.map eI)),.row 103,.one (.sl 1 (x_10.map (eL 1 eI))),.one (.sl 1 (states0.map eS)),.one (.sl 3 ([].map ao)),.one (.sl 1 ([].map eB)),.row 105,.one (.nil)],fun _=>rfl,fun _=>.p (by exact lf qh rfl rfl)⟩,⟨_,[106],Pt 106 0,rfl,fun _=>rfl,rfl,rfl,fun _=>.jG [101,103,105,106] (by exact .p (by exact yB (k:=106) rfl rfl rfl)) (by exact rfl)⟩,trivial,trivial⟩,⟨by kernel_rfl,⟨trivial,trivial,trivial,trivial,trivial,trivial,trivial,trivial,trivial,trivial,trivial,trivial,trivial,trivial,trivial,trivial,⟨Pt 106 0,fun _=>rfl,fun _=>.p (by exact dH rfl)⟩,trivial⟩,trivial⟩⟩⟩⟩⟩) rfl rfl rfl [0,1,12,17] [101,103,105,106] (s':=⟨[(0,_),(1,_),(12,_),(17,Pt 106 0)],[(101,_),(103,.row 4 1 (x_9.map eB)),(105,.row 9 1 (x_11.map eS)),(106,.aW 95 [.one (.i me0),.one (.i regions0),.one (.i step0),.one (.sl 1 (home0.map eI)),.row 103,.one (.sl 1 (x_10.map (eL 1 eI))),.one (.sl 1 (states0.map eS)),.one (.sl 3 ([].map ao)),.one (.sl 1 ([].map eB)),.row 105,.one (.nil)])]⟩) rfl ?_
   refine ab.seq (ab.aa ?_)
   refine Oc om (Oc (aG rfl) (Oc (ae bm rfl rfl) (Oc (ae er rfl rfl) (Oc (aX dd rfl rfl rfl) (Oc om ?_)))))
   obtain ⟨x_12,e35,h⟩:=aP h
   refine Oc (bq dK (aL e35) (dy e35) rfl rfl rfl rfl) (Oc (fi (i:=(me0:Int).toNat) gx rfl rfl rfl rfl (nD e35) (map_set _ _ _ _)) ?_)
   refine af.ak ⟨[(0,_),(1,_),(12,_),(17,_)],[(101,_),(103,.row 4 1 ((x_9.set (me0:Int).toNat true).map eB)),(105,_),(106,_)]⟩ rfl ?_
   obtain ⟨v36,h37,h⟩:=aP h
   refine ab.ca (v:=v36) (rf fun (nf4_13:List Bool) (nf9_14:List de) (out_15:List aI)=>⟨[(12,Pt 101 0),(17,Pt 106 0)],[(101,.box 31 [.i 0,.i 0,.i 0,.nil,.nil,.nil,.nil,.nil,.nil,.nil]),(106,.aW 95 [.one (.i me0),.one (.i regions0),.one (.i step0),.one (.sl 1 (home0.map eI)),.one (.sl 1 (nf4_13.map eB)),.one (.sl 1 (x_10.map (eL 1 eI))),.one (.sl 1 (states0.map eS)),.one (.sl 3 ([].map ao)),.one (.sl 1 ([].map eB)),.one (.sl 1 (nf9_14.map eS)),.row 107]),(107,.row 42 7 (out_15.map ah))]⟩) (fun z=>z) ?_ ?_
   ·refine ab.seq (ab.aa ?_)
    refine Oc om (Oc om ?_)
    refine af.ak ⟨[(0,I me0),(12,Pt 101 0),(17,Pt 106 0),(99,I regions0),(100,I 0)],[(101,.box 31 [.i 0,.i 0,.i 0,.nil,.nil,.nil,.nil,.nil,.nil,.nil]),(103,.row 4 1 ((x_9.set (me0:Int).toNat true).map eB)),(105,.row 9 1 (x_11.map eS)),(106,.aW 95 [.one (.i me0),.one (.i regions0),.one (.i step0),.one (.sl 1 (home0.map eI)),.row 103,.one (.sl 1 (x_10.map (eL 1 eI))),.one (.sl 1 (states0.map eS)),.one (.sl 3 ([].map ao)),.one (.sl 1 ([].map eB)),.row 105,.one (.nil)])]⟩ rfl (ab.block (ab.bg 103 rfl (ab.bg 105 rfl (ab.iW 106 10 107 7 42 rfl rfl (by decide) (by decide) rfl (ab.bZ h37 (wJ fun (nf4_16:List Bool) (nf9_17:List de) (out_18:List aI) (x_19:Int)=>⟨[(0,I me0),(12,Pt 101 0),(17,Pt 106 0),(99,I regions0),(100,I x_19)],[(101,.box 31 [.i 0,.i 0,.i 0,.nil,.nil,.nil,.nil,.nil,.nil,.nil]),(106,.aW 95 [.one (.i me0),.one (.i regions0),.one (.i step0),.one (.sl 1 (home0.map eI)),.one (.sl 1 (nf4_16.map eB)),.one (.sl 1 (x_10.map (eL 1 eI))),.one (.sl 1 (states0.map eS)),.one (.sl 3 ([].map ao)),.one (.sl 1 ([].map eB)),.one (.sl 1 (nf9_17.map eS)),.row 107]),(107,.row 42 7 (out_18.map ah))]⟩) [0,12,17,99,100] [101,106,107] rfl ?_)))))
    rintro ⟨nf4_16,nf9_17,out_18,x_19⟩ o38 h39 hy40
    refine ab.seq (ab.aa ?_)
    refine Oc (aY rfl rfl) (af.ak ⟨[(0,_),(12,_),(17,_),(99,_),(100,_),(101,B (decide (x_19 < regions0)))],[(101,_),(106,_),(107,_)]⟩ rfl (ab.seq (ab.ite h39 rfl (fun _ h39=>?_) (fun _ h39=>?_))))
    ·refine ab.skip (Fin.ai ⟨[(0,_),(12,_),(17,_),(99,_),(100,_)],[(101,_),(106,_),(107,_)]⟩ rfl (Fin.then ?_))
     obtain ⟨v41,h42,h39⟩:=aP h39
     refine ab.ca (v:=v41) (fun (out_23:List aI)=>⟨[(0,I me0),(12,Pt 101 0),(17,Pt 106 0),(99,I regions0),(100,I x_19)],[(101,.box 31 [.i 0,.i 0,.i 0,.nil,.nil,.nil,.nil,.nil,.nil,.nil]),(106,.aW 95 [.one (.i me0),.one (.i regions0),.one (.i step0),.one (.sl 1 (home0.map eI)),.one (.sl 1 (nf4_16.map eB)),.one (.sl 1 (x_10.map (eL 1 eI))),.one (.sl 1 (states0.map eS)),.one (.sl 3 ([].map ao)),.one (.sl 1 ([].map eB)),.one (.sl 1 (nf9_17.map eS)),.row 107]),(107,.row 42 7 (out_23.map ah))]⟩) (fun z=>z) ?_ ?_
     ·refine ab.block (ab.seq (ab.aa ?_))
      refine Oc om (Oc oa ?_)
      refine af.ak ⟨[(0,_),(12,_),(17,_),(18,I x_19),(99,_),(100,_)],[(101,_),(106,_),(107,_)]⟩ rfl (ab.seq (ab.aa ?_))
      refine Oc om (Oc om (Oc (cY rfl rfl) ?_))
      refine af.ak ⟨[(0,_),(12,_),(17,_),(18,_),(99,_),(100,_),(105,B (decide (x_19 ≠ me0)))],[(101,_),(106,_),(107,_)]⟩ rfl (ab.ite h42 rfl (fun _ h42=>?_) (fun _ h42=>?_))
      ·refine ab.aa (Oc om (Oc om (Oc om (Oc (aG rfl) (Oc (ae bm rfl rfl) (Oc (ae gp rfl rfl) ?_))))))
       refine Oc (aX dT rfl rfl rfl) (Oc (bD.jH (.same (.same (.same (.same (.same (.sl (size:=1) (by decide) (.sl (size:=1) (by decide) (.nil)))))))) (cc kP rfl rfl)) ?_)
       obtain ⟨x_24,e43,h42⟩:=aP h42
       refine Oc (bL (own_a:=[(106,_),(107,_)]) (((ik e43).sw 1 106).sw 2 107) u9 rfl ⟨rfl,rfl,trivial⟩ rfl rfl) (af.nil (Fin.ar ?_))
       exact Fin.join [0,12,17,99,100] [101,106,107] x_24 (Option.some.inj h42) rfl
      ·refine ab.skip (Fin.ar ?_)
       exact Fin.join [0,12,17,99,100] [101,106,107] out_18 (Option.some.inj h42) rfl
     ·rintro out_23 hv
      subst v41
      refine ab.aa (Oc (bh rfl rfl) (Oc om ?_))
      refine af.nil ?_
      exact Fin.bp [0,12,17,99,100] [101,106,107] (nf4_16,nf9_17,out_23,IntKind.i64.wrap (x_19 + 1)) (Option.some.inj h39) rfl
    ·refine ab.exit (Fin.aq ?_)
     obtain rfl:=hy40 _ (Option.some.inj h39).symm
     refine Fin.aq (Fin.aE ?_)
     exact Fin.join [12,17] [101,106,107] (nf4_16,nf9_17,out_18) rfl rfl
   ·rintro ⟨nf4_13,nf9_14,out_15⟩ hv
    subst v36
    refine ab.seq (ab.aa ?_)
    refine Oc om ?_
    obtain ⟨⟨x_25,x_26⟩,e44,h⟩:=aP h
    refine Oc (bL (own_a:=[(106,_),(107,_)]) (((kn e44).sw 1 106).sw 2 107) ya rfl ⟨rfl,rfl,trivial⟩ rfl rfl) (af.ak ⟨[(12,_),(17,_)],[(101,_),(106,.aW 95 [.one (.i x_25.Me),.one (.i x_25.Regions),.one (.i x_25.Step),.one (.sl 1 (x_25.Home.map eI)),.one (.sl 1 (x_25.Heard.map eB)),.one (.sl 1 (x_25.Sets.map (eL 1 eI))),.one (.sl 1 (x_25.States.map eS)),.one (.sl 3 (x_25.Tasks.map ao)),.one (.sl 1 (x_25.Done.map eB)),.one (.sl 1 (x_25.Results.map eS)),.row 107]),(107,.row 42 7 (x_26.map ah))]⟩ rfl (ab.seq (ab.ff mixed [false,false,false,false,false,false,false,false,true,false,false] [Pt 106 0,Pt 106 0,Pt 106 0,.b (.agg (ay x_25)),Pt 106 0,Pt 106 0,Pt 106 10,.b (.row 107),B true,.b (.row 107),I 0] [⟨[false,false,false,false,false,false,false,false,false,false,false],[(12,Pt 101 0),(17,Pt 106 0)],[(101,.box 31 [.i 0,.i 0,.i 0,.nil,.nil,.nil,.nil,.nil,.nil,.nil]),(106,.aW 95 [.one (.i x_25.Me),.one (.i x_25.Regions),.one (.i x_25.Step),.one (.sl 1 (x_25.Home.map eI)),.one (.sl 1 (x_25.Heard.map eB)),.one (.sl 1 (x_25.Sets.map (eL 1 eI))),.one (.sl 1 (x_25.States.map eS)),.one (.sl 3 (x_25.Tasks.map ao)),.one (.sl 1 (x_25.Done.map eB)),.one (.sl 1 (x_25.Results.map eS)),.row 107]),(107,.row 42 7 (x_26.map ah))],[true,true,true,true,true,true,true,true,true,true,true],[],[9,10]⟩,⟨[false,false,false,false,false,false,false,false,true,false,false],[(12,Pt 101 0),(17,Pt 106 0)],[(101,.box 31 (ay x_25)),(106,.aW 95 [.one (.i x_25.Me),.one (.i x_25.Regions),.one (.i x_25.Step),.one (.sl 1 (x_25.Home.map eI)),.one (.sl 1 (x_25.Heard.map eB)),.one (.sl 1 (x_25.Sets.map (eL 1 eI))),.one (.sl 1 (x_25.States.map eS)),.one (.sl 3 (x_25.Tasks.map ao)),.one (.sl 1 (x_25.Done.map eB)),.one (.sl 1 (x_25.Results.map eS)),.row 107]),(107,.row 42 7 (x_26.map ah))],[true,true,true,true,true,true,true,true,true,true,true],[0,1,2,3,8],[]⟩] rfl (⟨by kernel_rfl,⟨⟨Pt 106 0,fun _=>rfl,fun _=>.p (by exact ax rfl)⟩,⟨Pt 106 0,fun _=>rfl,fun _=>.p (by exact aG rfl)⟩,⟨Pt 106 0,fun _=>rfl,fun _=>.p (by exact ae bm rfl rfl)⟩,⟨.b (.agg (ay x_25)),fun _=>rfl,fun _=>.p (by exact ld aU rfl rfl rfl rfl)⟩,⟨Pt 106 0,fun _=>rfl,fun _=>.p (by exact ax rfl)⟩,⟨Pt 106 0,fun _=>rfl,fun _=>.p (by exact aG rfl)⟩,⟨Pt 106 10,fun _=>rfl,fun _=>.p (by exact ae jh rfl rfl)⟩,⟨.b (.row 107),fun _=>rfl,fun _=>.p (by exact aX jX rfl rfl rfl)⟩,⟨_,[],.b (.one .any),rfl,(fun e=>by simp at e),rfl,rfl,fun _=>.jG [101,106,107] (by exact .p (by exact aR aU rfl rfl rfl rfl (Nat.le_of_ble_eq_true rfl) rfl)) (by exact rfl)⟩,trivial,trivial,trivial⟩,⟨by kernel_rfl,⟨trivial,trivial,trivial,trivial,⟨Pt 106 0,fun _=>rfl,fun _=>.p (by exact ax rfl)⟩,⟨Pt 106 0,fun _=>rfl,fun _=>.p (by exact aG rfl)⟩,⟨Pt 106 10,fun _=>rfl,fun _=>.p (by exact ae jh rfl rfl)⟩,⟨.b (.row 107),fun _=>rfl,fun _=>.p (by exact aX jX rfl rfl rfl)⟩,trivial,⟨.b (.row 107),fun _=>rfl,fun _=>.p (by exact dH rfl)⟩,⟨I 0,fun _=>rfl,fun _=>.p (by exact dH rfl)⟩,trivial⟩,trivial⟩⟩) rfl rfl rfl [12,13,14] [101,107] (s':=⟨[(12,_),(13,.b (.row 107)),(14,I 0)],[(101,.box 31 (ay x_25)),(107,_)]⟩) rfl ?_)))
    refine ab.ret ?_
    obtain rfl:=Option.some.inj h
    refine Fin.ai ⟨[(12,_),(13,_),(14,_)],[(101,_),(107,_)]⟩ rfl (Fin.dD 107 kr0 [.agg (ay x_25),.row 107,.one (.i 0)] (.inl rfl) rfl (.cons (.agg aU rfl rfl rfl rfl) (.cons (.tmp rfl) (.cons (.tmp rfl) .nil))) rfl rfl rfl rfl ⟨rfl,rfl⟩)
def ee (F:Nat) (s0:List Bool):Option (List Bool) :=
 (eF [] s0).bind fun x_2=>some x_2
theorem lW (kr0:Nat) {F:Nat} {s0:List Bool} {r:(List Bool)} (h:ee F s0 = some r):aA Try.prog [] 52 [] [.one (.sl 1 (s0.map eB))] (Is [(kr0,.row 4 1 (r.map eB))] (.b (.row kr0))):=by
 unfold ee at h
 refine aA.intro 8 Try.func52 Try.ntmps52 rfl (by simp) fun E=>?_
 show ab _ E ⟨8,[],[],[]⟩ _ ⟨[(0,.b (.one (.sl 1 (s0.map eB))))],[]⟩ _
 refine ab.seq (ab.aa ?_)
 refine Oc oa (af.ak ⟨[(0,.b (.one (.sl 1 (s0.map eB))))],[]⟩ rfl (ab.seq (ab.seq (ab.aa ?_))))
 refine Oc om (af.wE sj rfl (fun nb_1 hnb1=>?_))
 refine af.ak ⟨[(0,_),(4,B nb_1)],[]⟩ rfl (ab.cond rfl (fun hc2=>?_) (fun _=>?_))
 ·
  obtain rfl:s0 = []:=by simpa using hnb1 hc2
  refine ab.seq (ab.aa ?_)
  refine Oc oa (af.ak ⟨[(2,.b (.one (.nil)))],[]⟩ rfl (ab.ret (Fin.aw ?_)))
  obtain rfl:[] = r:=by first | (simp [eF] at h; exact h) | (simp [eF] at h; exact h.symm)
  refine Fin.ai ⟨[(2,_)],[]⟩ rfl (Fin.dc 2 101 1 4 rfl (by decide) rfl (Fin.dD 101 kr0 [.row 101] (.inl rfl) rfl (.cons (.tmp rfl) .nil) rfl rfl rfl rfl ⟨rfl,rfl⟩))
 ·refine ab.skip (Fin.ai ⟨[(0,_)],[]⟩ rfl (Fin.then (ab.seq (ab.aa ?_))))
  refine Oc (iB (k:=101) dK rfl) (Oc om ?_)
  obtain ⟨x_2,e3,h⟩:=aP h
  refine Oc (gq dK (ec e3) (dZ e3) rfl rfl rfl (cf e3) rfl) (Oc oa ?_)
  refine af.ak ⟨[(2,.b (.row 101))],[(101,.row 4 1 (x_2.map eB))]⟩ rfl (ab.ret ?_)
  obtain rfl:=Option.some.inj h
  refine Fin.ai ⟨[(2,_)],[(101,_)]⟩ rfl (Fin.dD 101 kr0 [.row 101] (.inl rfl) rfl (.cons (.tmp rfl) .nil) rfl rfl rfl rfl ⟨rfl,rfl⟩)
def dr (F:Nat) (l0:aI) (n0r:Round) (n0out:List aI):Option (Round × (List aI)) :=
 (aV n0r.Heard l0.From).bind fun x_1=>(aK (!(x_1 || (decide (0 < (IntKind.i64.wrap ((l0.Bodies.length:Int) + (l0.States.length:Int))))))) (cU F n0r.Home l0.Sets)).bind fun x_2=>if ((x_1 || (decide (0 < (IntKind.i64.wrap ((l0.Bodies.length:Int) + (l0.States.length:Int)))))) || (!x_2)) = true then (some (n0r,n0out)) else ((ee F n0r.Heard).bind fun x_3=>(aV x_3 l0.From).bind fun x_4=>(cT F [n0r.Sets,l0.Sets]).bind fun x_5=>Option.bind (cX F (⟨n0r.Me,n0r.Regions,n0r.Step,n0r.Home,x_3.set (l0.From:Int).toNat true,x_5,n0r.States,n0r.Tasks,n0r.Done,n0r.Results⟩:Round) n0out) (eU fun x_6 x_7=>some (x_6,x_7)))
theorem n3 {F:Nat} {l0:aI} {n0r:Round} {n0out:List aI} {r:Round × (List aI)} (h:dr F l0 n0r n0out = some r):aA Try.prog [] 62 [(1,.aW 95 [.one (.i n0r.Me),.one (.i n0r.Regions),.one (.i n0r.Step),.one (.sl 1 (n0r.Home.map eI)),.one (.sl 1 (n0r.Heard.map eB)),.one (.sl 1 (n0r.Sets.map (eL 1 eI))),.one (.sl 1 (n0r.States.map eS)),.one (.sl 3 (n0r.Tasks.map ao)),.one (.sl 1 (n0r.Done.map eB)),.one (.sl 1 (n0r.Results.map eS)),.row 2]),(2,.row 42 7 (n0out.map ah))] [.ptr 1 0,.agg (ah l0)] (Is [(1,.aW 95 [.one (.i r.1.Me),.one (.i r.1.Regions),.one (.i r.1.Step),.one (.sl 1 (r.1.Home.map eI)),.one (.sl 1 (r.1.Heard.map eB)),.one (.sl 1 (r.1.Sets.map (eL 1 eI))),.one (.sl 1 (r.1.States.map eS)),.one (.sl 3 (r.1.Tasks.map ao)),.one (.sl 1 (r.1.Done.map eB)),.one (.sl 1 (r.1.Results.map eS)),.row 2]),(2,.row 42 7 (r.2.map ah))] (.gR [])):=by
 unfold dr at h
 refine aA.intro 67 Try.func62 Try.ntmps62 rfl (by simp) fun E=>?_
 show ab _ E ⟨67,[1],[1,2],[]⟩ _ ⟨[(0,Pt 1 0),(1,.b (.agg (ah l0)))],[(1,.aW 95 [.one (.i n0r.Me),.one (.i n0r.Regions),.one (.i n0r.Step),.one (.sl 1 (n0r.Home.map eI)),.one (.sl 1 (n0r.Heard.map eB)),.one (.sl 1 (n0r.Sets.map (eL 1 eI))),.one (.sl 1 (n0r.States.map eS)),.one (.sl 3 (n0r.Tasks.map ao)),.one (.sl 1 (n0r.Done.map eB)),.one (.sl 1 (n0r.Results.map eS)),.row 2]),(2,.row 42 7 (n0out.map ah))]⟩ _
 refine ab.seq (ab.aa ?_)
 refine Oc (fv (k:=101) rfl rfl) (af.ak ⟨[(0,Pt 1 0),(3,Pt 101 0)],[(1,.aW 95 [.one (.i n0r.Me),.one (.i n0r.Regions),.one (.i n0r.Step),.one (.sl 1 (n0r.Home.map eI)),.one (.sl 1 (n0r.Heard.map eB)),.one (.sl 1 (n0r.Sets.map (eL 1 eI))),.one (.sl 1 (n0r.States.map eS)),.one (.sl 3 (n0r.Tasks.map ao)),.one (.sl 1 (n0r.Done.map eB)),.one (.sl 1 (n0r.Results.map eS)),.row 2]),(2,.row 42 7 (n0out.map ah)),(101,.box 42 (ah l0))]⟩ rfl (ab.seq (ab.seq ?_)))
 refine ab.ai ⟨[(0,_),(3,_)],[(1,_),(2,_),(101,_)]⟩ rfl ?_
 obtain ⟨x_1,e1,h⟩:=aP h
 obtain ⟨x_2,e18,h⟩:=aP h
 refine ab.eX mixed 30 [Pt 1 0,Pt 1 0,Pt 1 0,Pt 1 4,.b (.one (.sl 1 (n0r.Heard.map eB))),Pt 101 2,I l0.From,.b (.cx [.bool x_1]),B x_1,B x_1,.opt (!x_1) (.ptr 101 5),.opt (!x_1) (.one (.sl 1 (l0.Bodies.map eI))),.opt (!x_1) (.one (.i (l0.Bodies.length:Int))),.opt (!x_1) (.ptr 101 6),.opt (!x_1) (.one (.sl 1 (l0.States.map eS))),.opt (!x_1) (.one (.i (l0.States.length:Int))),.opt (!x_1) (.one (.i (IntKind.i64.wrap ((l0.Bodies.length:Int) + (l0.States.length:Int))))),.opt (!x_1) (.one (.bool (decide (0 < (IntKind.i64.wrap ((l0.Bodies.length:Int) + (l0.States.length:Int))))))),B (x_1 || (decide (0 < (IntKind.i64.wrap ((l0.Bodies.length:Int) + (l0.States.length:Int)))))),B (x_1 || (decide (0 < (IntKind.i64.wrap ((l0.Bodies.length:Int) + (l0.States.length:Int)))))),.opt (!(x_1 || (decide (0 < (IntKind.i64.wrap ((l0.Bodies.length:Int) + (l0.States.length:Int))))))) (.ptr 1 0),.opt (!(x_1 || (decide (0 < (IntKind.i64.wrap ((l0.Bodies.length:Int) + (l0.States.length:Int))))))) (.ptr 1 0),.opt (!(x_1 || (decide (0 < (IntKind.i64.wrap ((l0.Bodies.length:Int) + (l0.States.length:Int))))))) (.ptr 1 0),.opt (!(x_1 || (decide (0 < (IntKind.i64.wrap ((l0.Bodies.length:Int) + (l0.States.length:Int))))))) (.ptr 1 3),.opt (!(x_1 || (decide (0 < (IntKind.i64.wrap ((l0.Bodies.length:Int) + (l0.States.length:Int))))))) (.one (.sl 1 (n0r.Home.map eI))),.opt (!(x_1 || (decide (0 < (IntKind.i64.wrap ((l0.Bodies.length:Int) + (l0.States.length:Int))))))) (.ptr 101 4),.opt (!(x_1 || (decide (0 < (IntKind.i64.wrap ((l0.Bodies.length:Int) + (l0.States.length:Int))))))) (.one (.sl 1 (l0.Sets.map (eL 1 eI)))),.opt (!(x_1 || (decide (0 < (IntKind.i64.wrap ((l0.Bodies.length:Int) + (l0.States.length:Int))))))) (.one (.bool x_2)),.opt (!(x_1 || (decide (0 < (IntKind.i64.wrap ((l0.Bodies.length:Int) + (l0.States.length:Int))))))) (.one (.bool (!x_2))),B ((x_1 || (decide (0 < (IntKind.i64.wrap ((l0.Bodies.length:Int) + (l0.States.length:Int)))))) || (!x_2))] [0,3,33] [1,2,101] (s':=⟨[(0,_),(3,_),(33,B ((x_1 || (decide (0 < (IntKind.i64.wrap ((l0.Bodies.length:Int) + (l0.States.length:Int)))))) || (!x_2)))],[(1,_),(2,_),(101,_)]⟩) rfl ⟨fun _=>.p om,fun _=>.p (aG rfl),fun _=>.p (ae bm rfl rfl),fun _=>.p (ae er rfl rfl),fun _=>.p (aX dd rfl rfl rfl),fun _=>.p (ae dR rfl rfl),fun _=>.p (ag aD rfl rfl rfl),fun _=>.p (an dK (aL e1) (aB (e:=eB) e1) rfl rfl),fun _=>.p (au gx rfl rfl),fun _=>.p om,fun _=>by exact .guard (!x_1) 1 [] (.plain rfl) (dQ _) rfl rfl (fun g2=>trivial) (fun g2=>ae du rfl rfl),fun _=>by exact .guard (!x_1) 2 [14] (.plain rfl) (dQ _) rfl rfl (fun g3=>⟨g3,trivial⟩) (fun g3=>ag aN rfl rfl rfl),fun _=>by exact .guard (!x_1) 2 [15] (.plain rfl) (dQ _) rfl rfl (fun g4=>⟨g4,trivial⟩) (fun g4=>av bR rfl (List.length_map _)),fun _=>by exact .guard (!x_1) 1 [] (.plain rfl) (dQ _) rfl rfl (fun g5=>trivial) (fun g5=>ae fK rfl rfl),fun _=>by exact .guard (!x_1) 2 [17] (.plain rfl) (dQ _) rfl rfl (fun g6=>⟨g6,trivial⟩) (fun g6=>ag b6 rfl rfl rfl),fun _=>by exact .guard (!x_1) 2 [18] (.plain rfl) (dQ _) rfl rfl (fun g7=>⟨g7,trivial⟩) (fun g7=>av lM rfl (List.length_map _)),fun _=>by exact .guard (!x_1) 3 [16,19] (.plain rfl) (dQ _) rfl rfl (fun g8=>⟨g8,g8,trivial⟩) (fun g8=>bh rfl rfl),fun _=>by exact .guard (!x_1) 2 [20] (.plain rfl) (dQ _) rfl rfl (fun g9=>⟨g9,trivial⟩) (fun g9=>gZ rfl rfl),fun _=>.p (aF (fun e=>by first | (rw [e]; rfl) | (simp only at e; rw [e]; rfl)) rfl rfl rfl rfl),fun _=>.p om,fun _=>by exact .guard (!(x_1 || (decide (0 < (IntKind.i64.wrap ((l0.Bodies.length:Int) + (l0.States.length:Int))))))) 1 [] (.plain rfl) (dQ _) rfl rfl (fun g10=>trivial) (fun g10=>om),fun _=>by exact .guard (!(x_1 || (decide (0 < (IntKind.i64.wrap ((l0.Bodies.length:Int) + (l0.States.length:Int))))))) 2 [24] (.plain rfl) (dQ _) rfl rfl (fun g11=>⟨g11,trivial⟩) (fun g11=>aG rfl),fun _=>by exact .guard (!(x_1 || (decide (0 < (IntKind.i64.wrap ((l0.Bodies.length:Int) + (l0.States.length:Int))))))) 2 [25] (.plain rfl) (dQ _) rfl rfl (fun g12=>⟨g12,trivial⟩) (fun g12=>ae bm rfl rfl),fun _=>by exact .guard (!(x_1 || (decide (0 < (IntKind.i64.wrap ((l0.Bodies.length:Int) + (l0.States.length:Int))))))) 2 [26] (.plain rfl) (dQ _) rfl rfl (fun g13=>⟨g13,trivial⟩) (fun g13=>ae dF rfl rfl),fun _=>by exact .guard (!(x_1 || (decide (0 < (IntKind.i64.wrap ((l0.Bodies.length:Int) + (l0.States.length:Int))))))) 2 [27] (.plain rfl) (dQ _) rfl rfl (fun g14=>⟨g14,trivial⟩) (fun g14=>aX aN rfl rfl rfl),fun _=>by exact .guard (!(x_1 || (decide (0 < (IntKind.i64.wrap ((l0.Bodies.length:Int) + (l0.States.length:Int))))))) 1 [] (.plain rfl) (dQ _) rfl rfl (fun g15=>trivial) (fun g15=>ae fL rfl rfl),fun _=>by exact .guard (!(x_1 || (decide (0 < (IntKind.i64.wrap ((l0.Bodies.length:Int) + (l0.States.length:Int))))))) 2 [29] (.plain rfl) (dQ _) rfl rfl (fun g16=>⟨g16,trivial⟩) (fun g16=>ag dT rfl rfl rfl),fun _=>by exact .guard (!(x_1 || (decide (0 < (IntKind.i64.wrap ((l0.Bodies.length:Int) + (l0.States.length:Int))))))) 4 [28,30] (.plain rfl) (dQ _) rfl rfl (fun g17=>⟨g17,g17,trivial⟩) (fun g17=>az (gg (gc e18 g17)) tf rfl rfl),fun _=>by exact .guard (!(x_1 || (decide (0 < (IntKind.i64.wrap ((l0.Bodies.length:Int) + (l0.States.length:Int))))))) 2 [31] (.plain rfl) (dQ _) rfl rfl (fun g19=>⟨g19,trivial⟩) (fun g19=>cL rfl),fun _=>.p (aF (fun e=>by first | (rw [e]; rfl) | (simp only at e; rw [e]; rfl)) rfl rfl rfl rfl),trivial⟩ rfl rfl ?_
 refine ab.ite h rfl (fun _ h=>?_) (fun _ h=>?_)
 ·refine ab.ret (Fin.aw ?_)
  obtain rfl:=Option.some.inj h
  refine Fin.ai ⟨[],[(1,_),(2,_)]⟩ rfl ?_
  exact Fin.result [] (.inl rfl) rfl (.nil) ⟨rfl,rfl⟩
 ·refine ab.skip (Fin.ai ⟨[(0,_),(3,_)],[(1,_),(2,_),(101,_)]⟩ rfl (Fin.then (ab.seq (ab.aa ?_))))
  refine Oc om (Oc om (Oc (aG rfl) (Oc (ae bm rfl rfl) (Oc (ae er rfl rfl) (Oc (aX dd rfl rfl rfl) ?_)))))
  refine af.ai ⟨[(0,_),(3,_),(34,Pt 1 0),(39,.b (.one (.sl 1 (n0r.Heard.map eB))))],[(1,_),(2,_),(101,_)]⟩ rfl ?_
  obtain ⟨x_3,e20,h⟩:=aP h
  refine Oc (bL (lW 102 e20) xY rfl trivial rfl rfl) (Oc (aG rfl) (Oc (ae bm rfl rfl) (Oc (ae er rfl rfl) (Oc (fU dd rfl rfl rfl rfl (Nat.le_of_ble_eq_true rfl) rfl) ?_))))
  refine af.ak ⟨[(0,_),(3,_)],[(1,.aW 95 [.one (.i n0r.Me),.one (.i n0r.Regions),.one (.i n0r.Step),.one (.sl 1 (n0r.Home.map eI)),.row 102,.one (.sl 1 (n0r.Sets.map (eL 1 eI))),.one (.sl 1 (n0r.States.map eS)),.one (.sl 3 (n0r.Tasks.map ao)),.one (.sl 1 (n0r.Done.map eB)),.one (.sl 1 (n0r.Results.map eS)),.row 2]),(2,_),(101,_),(102,.row 4 1 (x_3.map eB))]⟩ rfl (ab.seq ?_)
  obtain ⟨x_4,e21,h⟩:=aP h
  refine ab.eX mixed 8 [Pt 1 0,Pt 1 0,Pt 1 0,Pt 1 4,.b (.row 102),Pt 101 2,I l0.From,.b (.eQ 102 ((l0.From:Int).toNat * 1))] [0,3] [1,2,101,102] (s':=⟨[(0,_),(3,_)],[(1,_),(2,_),(101,_),(102,.row 4 1 ((x_3.set (l0.From:Int).toNat true).map eB))]⟩) rfl ⟨fun _=>.p om,fun _=>.p (aG rfl),fun _=>.p (ae bm rfl rfl),fun _=>.p (ae er rfl rfl),fun _=>.p (aX dd rfl rfl rfl),fun _=>.p (ae dR rfl rfl),fun _=>.p (ag aD rfl rfl rfl),fun _=>.p (bq dK (aL e21) (dy e21) rfl rfl rfl rfl),trivial⟩ ⟨_,by exact .p (fi (i:=(l0.From:Int).toNat) gx rfl rfl rfl rfl (nD e21) (map_set _ _ _ _)),rfl⟩ rfl (ab.seq (ab.ai ⟨[(0,_),(3,_)],[(1,_),(2,_),(101,_),(102,_)]⟩ rfl ?_))
  obtain ⟨x_5,e22,h⟩:=aP h
  refine ab.eX mixed 13 [Pt 1 0,Pt 1 0,Pt 1 0,Pt 1 0,Pt 1 5,.b (.one (.sl 1 (n0r.Sets.map (eL 1 eI)))),Pt 101 4,.b (.one (.sl 1 (l0.Sets.map (eL 1 eI)))),.b (.one (.sl 1 ([n0r.Sets,l0.Sets].map (eL 1 (eL 1 eI))))),.b (.one (.sl 1 (x_5.map (eL 1 eI)))),Pt 1 0,Pt 1 0,Pt 1 5] [0] [1,2,102] (s':=⟨[(0,Pt 1 0)],[(1,.aW 95 [.one (.i n0r.Me),.one (.i n0r.Regions),.one (.i n0r.Step),.one (.sl 1 (n0r.Home.map eI)),.row 102,.one (.sl 1 (x_5.map (eL 1 eI))),.one (.sl 1 (n0r.States.map eS)),.one (.sl 3 (n0r.Tasks.map ao)),.one (.sl 1 (n0r.Done.map eB)),.one (.sl 1 (n0r.Results.map eS)),.row 2]),(2,.row 42 7 (n0out.map ah)),(102,.row 4 1 ((x_3.set (l0.From:Int).toNat true).map eB))]⟩) rfl ⟨fun _=>.p om,fun _=>.p om,fun _=>.p (aG rfl),fun _=>.p (ae bm rfl rfl),fun _=>.p (ae gp rfl rfl),fun _=>.p (aX dT rfl rfl rfl),fun _=>.p (ae fL rfl rfl),fun _=>.p (ag dT rfl rfl rfl),fun _=>.p (cg (es:=[n0r.Sets,l0.Sets].map (eL 1 (eL 1 eI))) o7 rfl rfl (bc fun _=>rfl) rfl (by decide) (by decide)),fun _=>.p (az (eZ e22) qd rfl rfl),fun _=>.p (aG rfl),fun _=>.p (ae bm rfl rfl),fun _=>.p (ae gp rfl rfl),trivial⟩ ⟨_,by exact .p (fU dT rfl rfl rfl rfl (Nat.le_of_ble_eq_true rfl) rfl),rfl⟩ rfl (ab.aa (Oc om (af.bg 102 rfl ?_)))
  obtain ⟨⟨x_6,x_7⟩,e23,h⟩:=aP h
  refine Oc (bL (own_a:=[(1,_),(2,_)]) (kn e23) ya rfl ⟨rfl,rfl,trivial⟩ rfl rfl) (af.nil ?_)
  obtain rfl:=Option.some.inj h
  refine Fin.ai ⟨[],[(1,.aW 95 [.one (.i x_6.Me),.one (.i x_6.Regions),.one (.i x_6.Step),.one (.sl 1 (x_6.Home.map eI)),.one (.sl 1 (x_6.Heard.map eB)),.one (.sl 1 (x_6.Sets.map (eL 1 eI))),.one (.sl 1 (x_6.States.map eS)),.one (.sl 3 (x_6.Tasks.map ao)),.one (.sl 1 (x_6.Done.map eB)),.one (.sl 1 (x_6.Results.map eS)),.row 2]),(2,.row 42 7 (x_7.map ah))]⟩ rfl ?_
  exact Fin.result [] (.inr rfl) rfl (.nil) ⟨rfl,rfl⟩
def eJ (F:Nat) (s0:List de) (v0:de):Option Int :=
 Option.bind (iter F (fun x_1=>if (decide (x_1 < (s0.length:Int))) = true then ((aV s0 x_1).bind fun x_2=>if (decide (v0 = x_2)) = true then (some (.inr (.inr x_1))) else (some (.inl (IntKind.i64.wrap (x_1 + 1))))) else (some (.inr (.inl ())))) 0) (bG (fun _=>some (-1)) (fun y=>some y))
theorem oC {F:Nat} {s0:List de} {v0:de} {r:Int} (h:eJ F s0 v0 = some r):aA Try.prog [] 85 [] [.one (.sl 1 (s0.map eS)),.one (.str v0)] (Is [] (.b (.one (.i r)))):=by
 unfold eJ at h
 refine aA.intro 19 Try.func85 Try.ntmps85 rfl (by simp) fun E=>?_
 show ab _ E ⟨19,[],[],[]⟩ _ ⟨[(0,.b (.one (.sl 1 (s0.map eS)))),(1,.b (.one (.str v0)))],[]⟩ _
 refine ab.seq (ab.aa ?_)
 refine Oc oa (af.ak ⟨[(0,.b (.one (.sl 1 (s0.map eS)))),(1,.b (.one (.str v0)))],[]⟩ rfl ?_)
 obtain ⟨v1,h2,h⟩:=aP h
 refine ab.ca (v:=v1) (fun (_:Unit)=>⟨[],[]⟩) (fun z=>.inl z) ?_ ?_
 ·refine ab.seq (ab.aa ?_)
  refine Oc om (Oc (av lM rfl (List.length_map _)) (Oc om ?_))
  refine af.ak ⟨[(0,_),(1,_),(7,I (s0.length:Int)),(8,I 0)],[]⟩ rfl (ab.block (ab.bZ h2 (fun (x_1:Int)=>⟨[(0,.b (.one (.sl 1 (s0.map eS)))),(1,.b (.one (.str v0))),(7,I (s0.length:Int)),(8,I x_1)],[]⟩) [0,1,7,8] [] rfl ?_))
  rintro x_1 o3 h4 hy5
  refine ab.seq (ab.aa ?_)
  refine Oc (aY rfl rfl) (af.ak ⟨[(0,_),(1,_),(7,_),(8,_),(9,B (decide (x_1 < (s0.length:Int))))],[]⟩ rfl (ab.seq (ab.ite h4 rfl (fun _ h4=>?_) (fun _ h4=>?_))))
  ·refine ab.skip (Fin.ai ⟨[(0,_),(1,_),(7,_),(8,_)],[]⟩ rfl (Fin.then (ab.seq (ab.block (ab.seq (ab.aa ?_))))))
   refine Oc om (Oc oa ?_)
   refine af.ak ⟨[(0,_),(1,_),(5,I x_1),(7,_),(8,_)],[]⟩ rfl (ab.seq (ab.aa ?_))
   refine Oc om (Oc om (Oc om ?_))
   obtain ⟨x_2,e6,h4⟩:=aP h4
   refine Oc (an cw (aL e6) (aB (e:=eS) e6) rfl rfl) (Oc (au fG rfl rfl) (Oc (hX rfl rfl) ?_))
   refine af.ak ⟨[(0,_),(1,_),(5,_),(7,_),(8,_),(16,B (decide (v0 = x_2)))],[]⟩ rfl (ab.ite h4 rfl (fun _ h4=>?_) (fun _ h4=>?_))
   ·refine ab.seq (ab.aa ?_)
    refine Oc om (Oc oa ?_)
    refine af.ak ⟨[(4,I x_1)],[]⟩ rfl (ab.ret (Fin.aJ (Fin.aw ?_)))
    obtain rfl:=hy5 _ (Option.some.inj h4).symm
    refine Fin.aw (Fin.aJ (Fin.aw ?_))
    obtain rfl:=Option.some.inj h
    refine Fin.ai ⟨[(4,_)],[]⟩ rfl (Fin.aM [.one (.i x_1)] (.inl rfl) rfl (.cons (.tmp rfl) .nil) ⟨rfl,rfl⟩)
   ·refine ab.skip (Fin.ar (Fin.ai ⟨[(0,_),(1,_),(7,_),(8,_)],[]⟩ rfl (Fin.then (ab.aa ?_))))
    refine Oc (bh rfl rfl) (Oc om ?_)
    refine af.nil ?_
    exact Fin.bp [0,1,7,8] [] (IntKind.i64.wrap (x_1 + 1)) (Option.some.inj h4) rfl
  ·refine ab.exit (Fin.aq ?_)
   obtain rfl:=hy5 _ (Option.some.inj h4).symm
   refine Fin.aq (Fin.aE ?_)
   exact Fin.join [] [] () rfl rfl
 ·rintro _ hv
  subst v1
  refine ab.seq (ab.aa ?_)
  refine Oc oa (af.ak ⟨[(4,I (-1))],[]⟩ rfl (ab.ret ?_))
  obtain rfl:=Option.some.inj h
  refine Fin.ai ⟨[(4,_)],[]⟩ rfl (Fin.aM [.one (.i (-1))] (.inl rfl) rfl (.cons (.tmp rfl) .nil) ⟨rfl,rfl⟩)
def cr (F:Nat) (s0:List de) (v0:de):Option Bool :=
 (eJ F s0 v0).bind fun x_1=>some (decide (0 ≤ x_1))
theorem gA {F:Nat} {s0:List de} {v0:de} {r:Bool} (h:cr F s0 v0 = some r):aA Try.prog [] 51 [] [.one (.sl 1 (s0.map eS)),.one (.str v0)] (Is [] (.b (.one (.bool r)))):=by
 unfold cr at h
 refine aA.intro 9 Try.func51 Try.ntmps51 rfl (by simp) fun E=>?_
 show ab _ E ⟨9,[],[],[]⟩ _ ⟨[(0,.b (.one (.sl 1 (s0.map eS)))),(1,.b (.one (.str v0)))],[]⟩ _
 refine ab.seq (ab.aa ?_)
 refine Oc oa (af.ak ⟨[(0,.b (.one (.sl 1 (s0.map eS)))),(1,.b (.one (.str v0)))],[]⟩ rfl (ab.seq (ab.aa ?_)))
 refine Oc om (Oc om ?_)
 obtain ⟨x_1,e1,h⟩:=aP h
 refine Oc (az (oC e1) goes85 rfl rfl) (Oc (gk rfl rfl) (Oc oa ?_))
 refine af.ak ⟨[(4,B (decide (0 ≤ x_1)))],[]⟩ rfl (ab.ret ?_)
 obtain rfl:=Option.some.inj h
 refine Fin.ai ⟨[(4,_)],[]⟩ rfl (Fin.aM [.one (.bool (decide (0 ≤ x_1)))] (.inl rfl) rfl (.cons (.tmp rfl) .nil) ⟨rfl,rfl⟩)
def cR (F:Nat) (l0:aI) (region0:Int) (n0r:Round) (n0out:List aI):Option Bool :=
 (aK ((decide ((l0.Sets.length:Int) = 0)) && (decide ((l0.States.length:Int) = (l0.Bodies.length:Int)))) (cr F l0.States [])).bind fun x_1=>(aK (((decide ((l0.Sets.length:Int) = 0)) && (decide ((l0.States.length:Int) = (l0.Bodies.length:Int)))) && (!x_1)) (cU F n0r.Home [l0.Bodies])).bind fun x_2=>(aK ((((decide ((l0.Sets.length:Int) = 0)) && (decide ((l0.States.length:Int) = (l0.Bodies.length:Int)))) && (!x_1)) && x_2) (dB F l0.Bodies region0 n0r n0out)).bind fun x_3=>some (((((decide ((l0.Sets.length:Int) = 0)) && (decide ((l0.States.length:Int) = (l0.Bodies.length:Int)))) && (!x_1)) && x_2) && (decide ((x_3.length:Int) = (l0.Bodies.length:Int))))
theorem jE {F:Nat} {l0:aI} {region0:Int} {n0r:Round} {n0out:List aI} {r:Bool} (h:cR F l0 region0 n0r n0out = some r):aA Try.prog [] 86 [(1,.aW 95 [.one (.i n0r.Me),.one (.i n0r.Regions),.one (.i n0r.Step),.one (.sl 1 (n0r.Home.map eI)),.one (.sl 1 (n0r.Heard.map eB)),.one (.sl 1 (n0r.Sets.map (eL 1 eI))),.one (.sl 1 (n0r.States.map eS)),.one (.sl 3 (n0r.Tasks.map ao)),.one (.sl 1 (n0r.Done.map eB)),.one (.sl 1 (n0r.Results.map eS)),.row 2]),(2,.row 42 7 (n0out.map ah))] [.ptr 1 0,.agg (ah l0),.one (.i region0)] (Is [(1,.aW 95 [.one (.i n0r.Me),.one (.i n0r.Regions),.one (.i n0r.Step),.one (.sl 1 (n0r.Home.map eI)),.one (.sl 1 (n0r.Heard.map eB)),.one (.sl 1 (n0r.Sets.map (eL 1 eI))),.one (.sl 1 (n0r.States.map eS)),.one (.sl 3 (n0r.Tasks.map ao)),.one (.sl 1 (n0r.Done.map eB)),.one (.sl 1 (n0r.Results.map eS)),.row 2]),(2,.row 42 7 (n0out.map ah))] (.b (.one (.bool r)))):=by
 unfold cR at h
 refine aA.intro 49 Try.func86 Try.ntmps86 rfl (by simp) fun E=>?_
 show ab _ E ⟨49,[1],[1,2],[]⟩ _ ⟨[(0,Pt 1 0),(1,.b (.agg (ah l0))),(2,I region0)],[(1,.aW 95 [.one (.i n0r.Me),.one (.i n0r.Regions),.one (.i n0r.Step),.one (.sl 1 (n0r.Home.map eI)),.one (.sl 1 (n0r.Heard.map eB)),.one (.sl 1 (n0r.Sets.map (eL 1 eI))),.one (.sl 1 (n0r.States.map eS)),.one (.sl 3 (n0r.Tasks.map ao)),.one (.sl 1 (n0r.Done.map eB)),.one (.sl 1 (n0r.Results.map eS)),.row 2]),(2,.row 42 7 (n0out.map ah))]⟩ _
 refine ab.seq (ab.aa ?_)
 refine Oc (fv (k:=101) rfl rfl) (Oc oa ?_)
 refine af.ak ⟨[(0,Pt 1 0),(2,I region0),(4,Pt 101 0)],[(1,.aW 95 [.one (.i n0r.Me),.one (.i n0r.Regions),.one (.i n0r.Step),.one (.sl 1 (n0r.Home.map eI)),.one (.sl 1 (n0r.Heard.map eB)),.one (.sl 1 (n0r.Sets.map (eL 1 eI))),.one (.sl 1 (n0r.States.map eS)),.one (.sl 3 (n0r.Tasks.map ao)),.one (.sl 1 (n0r.Done.map eB)),.one (.sl 1 (n0r.Results.map eS)),.row 2]),(2,.row 42 7 (n0out.map ah)),(101,.box 42 (ah l0))]⟩ rfl (ab.seq ?_)
 obtain ⟨x_1,e1,h⟩:=aP h
 obtain ⟨x_2,e2,h⟩:=aP h
 obtain ⟨x_3,e3,h⟩:=aP h
 refine ab.ff mixed [false,false,false,false,false,false,false,false,false,false,false,false,false,false,false,false,false,false,false,false,false,false,false,false,false,false,false,false,false,false,false,false,false,false,false,true,false,false,false,false,false,false,false] [Pt 101 4,.b (.one (.sl 1 (l0.Sets.map (eL 1 eI)))),I (l0.Sets.length:Int),B (decide ((l0.Sets.length:Int) = 0)),B (decide ((l0.Sets.length:Int) = 0)),.opt (decide ((l0.Sets.length:Int) = 0)) (.ptr 101 6),.opt (decide ((l0.Sets.length:Int) = 0)) (.one (.sl 1 (l0.States.map eS))),.opt (decide ((l0.Sets.length:Int) = 0)) (.one (.i (l0.States.length:Int))),.opt (decide ((l0.Sets.length:Int) = 0)) (.ptr 101 5),.opt (decide ((l0.Sets.length:Int) = 0)) (.one (.sl 1 (l0.Bodies.map eI))),.opt (decide ((l0.Sets.length:Int) = 0)) (.one (.i (l0.Bodies.length:Int))),.opt (decide ((l0.Sets.length:Int) = 0)) (.one (.bool (decide ((l0.States.length:Int) = (l0.Bodies.length:Int))))),B ((decide ((l0.Sets.length:Int) = 0)) && (decide ((l0.States.length:Int) = (l0.Bodies.length:Int)))),B ((decide ((l0.Sets.length:Int) = 0)) && (decide ((l0.States.length:Int) = (l0.Bodies.length:Int)))),.opt ((decide ((l0.Sets.length:Int) = 0)) && (decide ((l0.States.length:Int) = (l0.Bodies.length:Int)))) (.ptr 101 6),.opt ((decide ((l0.Sets.length:Int) = 0)) && (decide ((l0.States.length:Int) = (l0.Bodies.length:Int)))) (.one (.sl 1 (l0.States.map eS))),.opt ((decide ((l0.Sets.length:Int) = 0)) && (decide ((l0.States.length:Int) = (l0.Bodies.length:Int)))) (.one (.bool x_1)),.opt ((decide ((l0.Sets.length:Int) = 0)) && (decide ((l0.States.length:Int) = (l0.Bodies.length:Int)))) (.one (.bool (!x_1))),B (((decide ((l0.Sets.length:Int) = 0)) && (decide ((l0.States.length:Int) = (l0.Bodies.length:Int)))) && (!x_1)),B (((decide ((l0.Sets.length:Int) = 0)) && (decide ((l0.States.length:Int) = (l0.Bodies.length:Int)))) && (!x_1)),.opt (((decide ((l0.Sets.length:Int) = 0)) && (decide ((l0.States.length:Int) = (l0.Bodies.length:Int)))) && (!x_1)) (.ptr 1 0),.opt (((decide ((l0.Sets.length:Int) = 0)) && (decide ((l0.States.length:Int) = (l0.Bodies.length:Int)))) && (!x_1)) (.ptr 1 0),.opt (((decide ((l0.Sets.length:Int) = 0)) && (decide ((l0.States.length:Int) = (l0.Bodies.length:Int)))) && (!x_1)) (.ptr 1 0),.opt (((decide ((l0.Sets.length:Int) = 0)) && (decide ((l0.States.length:Int) = (l0.Bodies.length:Int)))) && (!x_1)) (.ptr 1 3),.opt (((decide ((l0.Sets.length:Int) = 0)) && (decide ((l0.States.length:Int) = (l0.Bodies.length:Int)))) && (!x_1)) (.one (.sl 1 (n0r.Home.map eI))),.opt (((decide ((l0.Sets.length:Int) = 0)) && (decide ((l0.States.length:Int) = (l0.Bodies.length:Int)))) && (!x_1)) (.ptr 101 5),.opt (((decide ((l0.Sets.length:Int) = 0)) && (decide ((l0.States.length:Int) = (l0.Bodies.length:Int)))) && (!x_1)) (.one (.sl 1 (l0.Bodies.map eI))),.opt (((decide ((l0.Sets.length:Int) = 0)) && (decide ((l0.States.length:Int) = (l0.Bodies.length:Int)))) && (!x_1)) (.one (.sl 1 ([l0.Bodies].map (eL 1 eI)))),.opt (((decide ((l0.Sets.length:Int) = 0)) && (decide ((l0.States.length:Int) = (l0.Bodies.length:Int)))) && (!x_1)) (.one (.bool x_2)),B ((((decide ((l0.Sets.length:Int) = 0)) && (decide ((l0.States.length:Int) = (l0.Bodies.length:Int)))) && (!x_1)) && x_2),B ((((decide ((l0.Sets.length:Int) = 0)) && (decide ((l0.States.length:Int) = (l0.Bodies.length:Int)))) && (!x_1)) && x_2),.opt ((((decide ((l0.Sets.length:Int) = 0)) && (decide ((l0.States.length:Int) = (l0.Bodies.length:Int)))) && (!x_1)) && x_2) (.ptr 1 0),.opt ((((decide ((l0.Sets.length:Int) = 0)) && (decide ((l0.States.length:Int) = (l0.Bodies.length:Int)))) && (!x_1)) && x_2) (.ptr 101 5),.opt ((((decide ((l0.Sets.length:Int) = 0)) && (decide ((l0.States.length:Int) = (l0.Bodies.length:Int)))) && (!x_1)) && x_2) (.one (.sl 1 (l0.Bodies.map eI))),.opt ((((decide ((l0.Sets.length:Int) = 0)) && (decide ((l0.States.length:Int) = (l0.Bodies.length:Int)))) && (!x_1)) && x_2) (.one (.i region0)),.opt ((((decide ((l0.Sets.length:Int) = 0)) && (decide ((l0.States.length:Int) = (l0.Bodies.length:Int)))) && (!x_1)) && x_2) (.one (.sl 1 (x_3.map eI))),.opt ((((decide ((l0.Sets.length:Int) = 0)) && (decide ((l0.States.length:Int) = (l0.Bodies.length:Int)))) && (!x_1)) && x_2) (.one (.i (x_3.length:Int))),.opt ((((decide ((l0.Sets.length:Int) = 0)) && (decide ((l0.States.length:Int) = (l0.Bodies.length:Int)))) && (!x_1)) && x_2) (.ptr 101 5),.opt ((((decide ((l0.Sets.length:Int) = 0)) && (decide ((l0.States.length:Int) = (l0.Bodies.length:Int)))) && (!x_1)) && x_2) (.one (.sl 1 (l0.Bodies.map eI))),.opt ((((decide ((l0.Sets.length:Int) = 0)) && (decide ((l0.States.length:Int) = (l0.Bodies.length:Int)))) && (!x_1)) && x_2) (.one (.i (l0.Bodies.length:Int))),.opt ((((decide ((l0.Sets.length:Int) = 0)) && (decide ((l0.States.length:Int) = (l0.Bodies.length:Int)))) && (!x_1)) && x_2) (.one (.bool (decide ((x_3.length:Int) = (l0.Bodies.length:Int))))),B (((((decide ((l0.Sets.length:Int) = 0)) && (decide ((l0.States.length:Int) = (l0.Bodies.length:Int)))) && (!x_1)) && x_2) && (decide ((x_3.length:Int) = (l0.Bodies.length:Int)))),B (((((decide ((l0.Sets.length:Int) = 0)) && (decide ((l0.States.length:Int) = (l0.Bodies.length:Int)))) && (!x_1)) && x_2) && (decide ((x_3.length:Int) = (l0.Bodies.length:Int))))] [⟨[false,false,false,false,false,false,false,false,false,false,false,false,false,false,false,false,false,false,false,false,false,false,false,false,false,false,false,false,false,false,false,false,false,false,false,false,false,false,false,false,false,false,false],[(0,Pt 1 0),(2,I region0),(4,Pt 101 0)],[(1,.aW 95 [.one (.i n0r.Me),.one (.i n0r.Regions),.one (.i n0r.Step),.one (.sl 1 (n0r.Home.map eI)),.one (.sl 1 (n0r.Heard.map eB)),.one (.sl 1 (n0r.Sets.map (eL 1 eI))),.one (.sl 1 (n0r.States.map eS)),.one (.sl 3 (n0r.Tasks.map ao)),.one (.sl 1 (n0r.Done.map eB)),.one (.sl 1 (n0r.Results.map eS)),.row 2]),(2,.row 42 7 (n0out.map ah)),(101,.box 42 (ah l0))],[true,true,true,true,true,true,true,true,true,true,true,true,true,true,true,true,true,true,true,true,true,true,true,true,true,true,true,true,true,true,true,true,true,true,true,true,true,true,true,true,true,true,true],[],[36,40,41,42]⟩,⟨[false,false,false,false,false,false,false,false,false,false,false,false,false,false,false,false,false,false,false,false,false,false,false,false,false,false,false,false,false,false,false,false,false,false,false,true,false,false,false,false,false,false,false],[(0,Pt 1 0),(2,I region0),(4,Pt 101 0)],[(1,.aW 95 [.one (.i n0r.Me),.one (.i n0r.Regions),.one (.i n0r.Step),.one (.sl 1 (n0r.Home.map eI)),.one (.sl 1 (n0r.Heard.map eB)),.one (.sl 1 (n0r.Sets.map (eL 1 eI))),.one (.sl 1 (n0r.States.map eS)),.one (.sl 3 (n0r.Tasks.map ao)),.one (.sl 1 (n0r.Done.map eB)),.one (.sl 1 (n0r.Results.map eS)),.row 2]),(2,.row 42 7 (n0out.map ah)),(101,.box 42 (ah l0))],[true,true,true,true,true,true,true,true,true,true,true,true,true,true,true,true,true,true,true,true,true,true,true,true,true,true,true,true,true,true,true,true,true,true,true,true,true,true,true,true,true,true,true],[0,1,2,3,4,5,6,7,8,9,10,11,12,13,14,15,16,17,18,19,20,21,22,23,24,25,26,27,28,29,30,31,32,33,34,35],[]⟩] rfl (⟨by kernel_rfl,⟨⟨Pt 101 4,fun _=>rfl,fun _=>.p (by exact ae fL rfl rfl)⟩,⟨.b (.one (.sl 1 (l0.Sets.map (eL 1 eI)))),fun _=>rfl,fun _=>.p (by exact ag dT rfl rfl rfl)⟩,⟨I (l0.Sets.length:Int),fun _=>rfl,fun _=>.p (by exact av jr rfl (List.length_map _))⟩,⟨B (decide ((l0.Sets.length:Int) = 0)),fun _=>rfl,fun _=>.p (by exact di rfl rfl)⟩,⟨B (decide ((l0.Sets.length:Int) = 0)),fun _=>rfl,fun _=>.p (by exact ax rfl)⟩,⟨.opt (decide ((l0.Sets.length:Int) = 0)) (.ptr 101 6),fun _=>rfl,fun _=>by exact .guard (decide ((l0.Sets.length:Int) = 0)) 1 [] (.plain rfl) (dq _) rfl rfl (fun gg5=>trivial) (fun gg5=>ae fK rfl rfl)⟩,⟨.opt (decide ((l0.Sets.length:Int) = 0)) (.one (.sl 1 (l0.States.map eS))),fun _=>rfl,fun _=>by exact .guard (decide ((l0.Sets.length:Int) = 0)) 2 [12] (.plain rfl) (dq _) rfl rfl (fun gg6=>⟨gg6,trivial⟩) (fun gg6=>ag b6 rfl rfl rfl)⟩,⟨.opt (decide ((l0.Sets.length:Int) = 0)) (.one (.i (l0.States.length:Int))),fun _=>rfl,fun _=>by exact .guard (decide ((l0.Sets.length:Int) = 0)) 2 [13] (.plain rfl) (dq _) rfl rfl (fun gg7=>⟨gg7,trivial⟩) (fun gg7=>av lM rfl (List.length_map _))⟩,⟨.opt (decide ((l0.Sets.length:Int) = 0)) (.ptr 101 5),fun _=>rfl,fun _=>by exact .guard (decide ((l0.Sets.length:Int) = 0)) 1 [] (.plain rfl) (dq _) rfl rfl (fun gg8=>trivial) (fun gg8=>ae du rfl rfl)⟩,⟨.opt (decide ((l0.Sets.length:Int) = 0)) (.one (.sl 1 (l0.Bodies.map eI))),fun _=>rfl,fun _=>by exact .guard (decide ((l0.Sets.length:Int) = 0)) 2 [15] (.plain rfl) (dq _) rfl rfl (fun gg9=>⟨gg9,trivial⟩) (fun gg9=>ag aN rfl rfl rfl)⟩,⟨.opt (decide ((l0.Sets.length:Int) = 0)) (.one (.i (l0.Bodies.length:Int))),fun _=>rfl,fun _=>by exact .guard (decide ((l0.Sets.length:Int) = 0)) 2 [16] (.plain rfl) (dq _) rfl rfl (fun gg10=>⟨gg10,trivial⟩) (fun gg10=>av bR rfl (List.length_map _))⟩,⟨.opt (decide ((l0.Sets.length:Int) = 0)) (.one (.bool (decide ((l0.States.length:Int) = (l0.Bodies.length:Int))))),fun _=>rfl,fun _=>by exact .guard (decide ((l0.Sets.length:Int) = 0)) 3 [14,17] (.plain rfl) (dq _) rfl rfl (fun gg11=>⟨gg11,gg11,trivial⟩) (fun gg11=>di rfl rfl)⟩,⟨B ((decide ((l0.Sets.length:Int) = 0)) && (decide ((l0.States.length:Int) = (l0.Bodies.length:Int)))),fun _=>rfl,fun _=>.p (by exact aT (fun e=>e) rfl rfl rfl rfl)⟩,⟨B ((decide ((l0.Sets.length:Int) = 0)) && (decide ((l0.States.length:Int) = (l0.Bodies.length:Int)))),fun _=>rfl,fun _=>.p (by exact ax rfl)⟩,⟨.opt ((decide ((l0.Sets.length:Int) = 0)) && (decide ((l0.States.length:Int) = (l0.Bodies.length:Int)))) (.ptr 101 6),fun _=>rfl,fun _=>by exact .guard ((decide ((l0.Sets.length:Int) = 0)) && (decide ((l0.States.length:Int) = (l0.Bodies.length:Int)))) 1 [] (.plain rfl) (dq _) rfl rfl (fun gg14=>trivial) (fun gg14=>ae fK rfl rfl)⟩,⟨.opt ((decide ((l0.Sets.length:Int) = 0)) && (decide ((l0.States.length:Int) = (l0.Bodies.length:Int)))) (.one (.sl 1 (l0.States.map eS))),fun _=>rfl,fun _=>by exact .guard ((decide ((l0.Sets.length:Int) = 0)) && (decide ((l0.States.length:Int) = (l0.Bodies.length:Int)))) 2 [21] (.plain rfl) (dq _) rfl rfl (fun gg15=>⟨gg15,trivial⟩) (fun gg15=>ag b6 rfl rfl rfl)⟩,⟨.opt ((decide ((l0.Sets.length:Int) = 0)) && (decide ((l0.States.length:Int) = (l0.Bodies.length:Int)))) (.one (.bool x_1)),fun _=>rfl,fun _=>by exact .guard ((decide ((l0.Sets.length:Int) = 0)) && (decide ((l0.States.length:Int) = (l0.Bodies.length:Int)))) 3 [22] (.plain rfl) (dq _) rfl rfl (fun gg16=>⟨gg16,trivial⟩) (fun gg16=>az (gA (gc e1 gg16)) u6 rfl rfl)⟩,⟨.opt ((decide ((l0.Sets.length:Int) = 0)) && (decide ((l0.States.length:Int) = (l0.Bodies.length:Int)))) (.one (.bool (!x_1))),fun _=>rfl,fun _=>by exact .guard ((decide ((l0.Sets.length:Int) = 0)) && (decide ((l0.States.length:Int) = (l0.Bodies.length:Int)))) 2 [23] (.plain rfl) (dq _) rfl rfl (fun gg17=>⟨gg17,trivial⟩) (fun gg17=>cL rfl)⟩,⟨B (((decide ((l0.Sets.length:Int) = 0)) && (decide ((l0.States.length:Int) = (l0.Bodies.length:Int)))) && (!x_1)),fun _=>rfl,fun _=>.p (by exact aT (fun e=>e) rfl rfl rfl rfl)⟩,⟨B (((decide ((l0.Sets.length:Int) = 0)) && (decide ((l0.States.length:Int) = (l0.Bodies.length:Int)))) && (!x_1)),fun _=>rfl,fun _=>.p (by exact ax rfl)⟩,⟨.opt (((decide ((l0.Sets.length:Int) = 0)) && (decide ((l0.States.length:Int) = (l0.Bodies.length:Int)))) && (!x_1)) (.ptr 1 0),fun _=>rfl,fun _=>by exact .guard (((decide ((l0.Sets.length:Int) = 0)) && (decide ((l0.States.length:Int) = (l0.Bodies.length:Int)))) && (!x_1)) 1 [] (.plain rfl) (dq _) rfl rfl (fun gg20=>trivial) (fun gg20=>om)⟩,⟨.opt (((decide ((l0.Sets.length:Int) = 0)) && (decide ((l0.States.length:Int) = (l0.Bodies.length:Int)))) && (!x_1)) (.ptr 1 0),fun _=>rfl,fun _=>by exact .guard (((decide ((l0.Sets.length:Int) = 0)) && (decide ((l0.States.length:Int) = (l0.Bodies.length:Int)))) && (!x_1)) 2 [27] (.plain rfl) (dq _) rfl rfl (fun gg21=>⟨gg21,trivial⟩) (fun gg21=>aG rfl)⟩,⟨.opt (((decide ((l0.Sets.length:Int) = 0)) && (decide ((l0.States.length:Int) = (l0.Bodies.length:Int)))) && (!x_1)) (.ptr 1 0),fun _=>rfl,fun _=>by exact .guard (((decide ((l0.Sets.length:Int) = 0)) && (decide ((l0.States.length:Int) = (l0.Bodies.length:Int)))) && (!x_1)) 2 [28] (.plain rfl) (dq _) rfl rfl (fun gg22=>⟨gg22,trivial⟩) (fun gg22=>ae bm rfl rfl)⟩,⟨.opt (((decide ((l0.Sets.length:Int) = 0)) && (decide ((l0.States.length:Int) = (l0.Bodies.length:Int)))) && (!x_1)) (.ptr 1 3),fun _=>rfl,fun _=>by exact .guard (((decide ((l0.Sets.length:Int) = 0)) && (decide ((l0.States.length:Int) = (l0.Bodies.length:Int)))) && (!x_1)) 2 [29] (.plain rfl) (dq _) rfl rfl (fun gg23=>⟨gg23,trivial⟩) (fun gg23=>ae dF rfl rfl)⟩,⟨.opt (((decide ((l0.Sets.length:Int) = 0)) && (decide ((l0.States.length:Int) = (l0.Bodies.length:Int)))) && (!x_1)) (.one (.sl 1 (n0r.Home.map eI))),fun _=>rfl,fun _=>by exact .guard (((decide ((l0.Sets.length:Int) = 0)) && (decide ((l0.States.length:Int) = (l0.Bodies.length:Int)))) && (!x_1)) 2 [30] (.plain rfl) (dq _) rfl rfl (fun gg24=>⟨gg24,trivial⟩) (fun gg24=>aX aN rfl rfl rfl)⟩,⟨.opt (((decide ((l0.Sets.length:Int) = 0)) && (decide ((l0.States.length:Int) = (l0.Bodies.length:Int)))) && (!x_1)) (.ptr 101 5),fun _=>rfl,fun _=>by exact .guard (((decide ((l0.Sets.length:Int) = 0)) && (decide ((l0.States.length:Int) = (l0.Bodies.length:Int)))) && (!x_1)) 1 [] (.plain rfl) (dq _) rfl rfl (fun gg25=>trivial) (fun gg25=>ae du rfl rfl)⟩,⟨.opt (((decide ((l0.Sets.length:Int) = 0)) && (decide ((l0.States.length:Int) = (l0.Bodies.length:Int)))) && (!x_1)) (.one (.sl 1 (l0.Bodies.map eI))),fun _=>rfl,fun _=>by exact .guard (((decide ((l0.Sets.length:Int) = 0)) && (decide ((l0.States.length:Int) = (l0.Bodies.length:Int)))) && (!x_1)) 2 [32] (.plain rfl) (dq _) rfl rfl (fun gg26=>⟨gg26,trivial⟩) (fun gg26=>ag aN rfl rfl rfl)⟩,⟨.opt (((decide ((l0.Sets.length:Int) = 0)) && (decide ((l0.States.length:Int) = (l0.Bodies.length:Int)))) && (!x_1)) (.one (.sl 1 ([l0.Bodies].map (eL 1 eI)))),fun _=>rfl,fun _=>by exact .guard (((decide ((l0.Sets.length:Int) = 0)) && (decide ((l0.States.length:Int) = (l0.Bodies.length:Int)))) && (!x_1)) 2 [33] (.plain rfl) (dq _) rfl rfl (fun gg27=>⟨gg27,trivial⟩) (fun gg27=>cg (es:=[l0.Bodies].map (eL 1 eI)) bY rfl rfl (bc fun _=>rfl) rfl (by decide) (by decide))⟩,⟨.opt (((decide ((l0.Sets.length:Int) = 0)) && (decide ((l0.States.length:Int) = (l0.Bodies.length:Int)))) && (!x_1)) (.one (.bool x_2)),fun _=>rfl,fun _=>by exact .guard (((decide ((l0.Sets.length:Int) = 0)) && (decide ((l0.States.length:Int) = (l0.Bodies.length:Int)))) && (!x_1)) 4 [31,34] (.plain rfl) (dq _) rfl rfl (fun gg28=>⟨gg28,gg28,trivial⟩) (fun gg28=>az (gg (gc e2 gg28)) tf rfl rfl)⟩,⟨B ((((decide ((l0.Sets.length:Int) = 0)) && (decide ((l0.States.length:Int) = (l0.Bodies.length:Int)))) && (!x_1)) && x_2),fun _=>rfl,fun _=>.p (by exact aT (fun e=>e) rfl rfl rfl rfl)⟩,⟨B ((((decide ((l0.Sets.length:Int) = 0)) && (decide ((l0.States.length:Int) = (l0.Bodies.length:Int)))) && (!x_1)) && x_2),fun _=>rfl,fun _=>.p (by exact ax rfl)⟩,⟨.opt ((((decide ((l0.Sets.length:Int) = 0)) && (decide ((l0.States.length:Int) = (l0.Bodies.length:Int)))) && (!x_1)) && x_2) (.ptr 1 0),fun _=>rfl,fun _=>by exact .guard ((((decide ((l0.Sets.length:Int) = 0)) && (decide ((l0.States.length:Int) = (l0.Bodies.length:Int)))) && (!x_1)) && x_2) 1 [] (.plain rfl) (dq _) rfl rfl (fun gg31=>trivial) (fun gg31=>om)⟩,⟨.opt ((((decide ((l0.Sets.length:Int) = 0)) && (decide ((l0.States.length:Int) = (l0.Bodies.length:Int)))) && (!x_1)) && x_2) (.ptr 101 5),fun _=>rfl,fun _=>by exact .guard ((((decide ((l0.Sets.length:Int) = 0)) && (decide ((l0.States.length:Int) = (l0.Bodies.length:Int)))) && (!x_1)) && x_2) 1 [] (.plain rfl) (dq _) rfl rfl (fun gg32=>trivial) (fun gg32=>ae du rfl rfl)⟩,⟨.opt ((((decide ((l0.Sets.length:Int) = 0)) && (decide ((l0.States.length:Int) = (l0.Bodies.length:Int)))) && (!x_1)) && x_2) (.one (.sl 1 (l0.Bodies.map eI))),fun _=>rfl,fun _=>by exact .guard ((((decide ((l0.Sets.length:Int) = 0)) && (decide ((l0.States.length:Int) = (l0.Bodies.length:Int)))) && (!x_1)) && x_2) 2 [39] (.plain rfl) (dq _) rfl rfl (fun gg33=>⟨gg33,trivial⟩) (fun gg33=>ag aN rfl rfl rfl)⟩,⟨.opt ((((decide ((l0.Sets.length:Int) = 0)) && (decide ((l0.States.length:Int) = (l0.Bodies.length:Int)))) && (!x_1)) && x_2) (.one (.i region0)),fun _=>rfl,fun _=>by exact .guard ((((decide ((l0.Sets.length:Int) = 0)) && (decide ((l0.States.length:Int) = (l0.Bodies.length:Int)))) && (!x_1)) && x_2) 1 [] (.plain rfl) (dq _) rfl rfl (fun gg34=>trivial) (fun gg34=>om)⟩,⟨_,[2],.opt ((((decide ((l0.Sets.length:Int) = 0)) && (decide ((l0.States.length:Int) = (l0.Bodies.length:Int)))) && (!x_1)) && x_2) (.one (.sl 1 (x_3.map eI))),rfl,fun _=>rfl,rfl,rfl,fun _=>.jG [1,2,101] (by exact by exact .guardD [2] ((((decide ((l0.Sets.length:Int) = 0)) && (decide ((l0.States.length:Int) = (l0.Bodies.length:Int)))) && (!x_1)) && x_2) 5 [38,40,41] (.plain rfl) (dq _) rfl rfl (fun gg35=>⟨gg35,gg35,gg35,trivial⟩) (fun gg35=>(bL (own_a:=[(1,_),(2,_)]) (((jc (gc e3 gg35)).sw 51 103).tK 103 rfl) te rfl ⟨rfl,rfl,trivial⟩ rfl rfl).jG [1,2,101] rfl)) (by exact rfl)⟩,trivial,⟨.opt ((((decide ((l0.Sets.length:Int) = 0)) && (decide ((l0.States.length:Int) = (l0.Bodies.length:Int)))) && (!x_1)) && x_2) (.ptr 101 5),fun _=>rfl,fun _=>by exact .guard ((((decide ((l0.Sets.length:Int) = 0)) && (decide ((l0.States.length:Int) = (l0.Bodies.length:Int)))) && (!x_1)) && x_2) 1 [] (.plain rfl) (dq _) rfl rfl (fun gg37=>trivial) (fun gg37=>ae du rfl rfl)⟩,⟨.opt ((((decide ((l0.Sets.length:Int) = 0)) && (decide ((l0.States.length:Int) = (l0.Bodies.length:Int)))) && (!x_1)) && x_2) (.one (.sl 1 (l0.Bodies.map eI))),fun _=>rfl,fun _=>by exact .guard ((((decide ((l0.Sets.length:Int) = 0)) && (decide ((l0.States.length:Int) = (l0.Bodies.length:Int)))) && (!x_1)) && x_2) 2 [44] (.plain rfl) (dq _) rfl rfl (fun gg38=>⟨gg38,trivial⟩) (fun gg38=>ag aN rfl rfl rfl)⟩,⟨.opt ((((decide ((l0.Sets.length:Int) = 0)) && (decide ((l0.States.length:Int) = (l0.Bodies.length:Int)))) && (!x_1)) && x_2) (.one (.i (l0.Bodies.length:Int))),fun _=>rfl,fun _=>by exact .guard ((((decide ((l0.Sets.length:Int) = 0)) && (decide ((l0.States.length:Int) = (l0.Bodies.length:Int)))) && (!x_1)) && x_2) 2 [45] (.plain rfl) (dq _) rfl rfl (fun gg39=>⟨gg39,trivial⟩) (fun gg39=>av bR rfl (List.length_map _))⟩,trivial,trivial,trivial,trivial⟩,⟨by kernel_rfl,⟨trivial,trivial,trivial,trivial,trivial,trivial,trivial,trivial,trivial,trivial,trivial,trivial,trivial,trivial,trivial,trivial,trivial,trivial,trivial,trivial,trivial,trivial,trivial,trivial,trivial,trivial,trivial,trivial,trivial,trivial,trivial,trivial,trivial,trivial,trivial,trivial,⟨.opt ((((decide ((l0.Sets.length:Int) = 0)) && (decide ((l0.States.length:Int) = (l0.Bodies.length:Int)))) && (!x_1)) && x_2) (.one (.i (x_3.length:Int))),fun _=>rfl,fun _=>by exact .guard ((((decide ((l0.Sets.length:Int) = 0)) && (decide ((l0.States.length:Int) = (l0.Bodies.length:Int)))) && (!x_1)) && x_2) 2 [42] (.plain rfl) (dq _) rfl rfl (fun gg36=>⟨gg36,trivial⟩) (fun gg36=>av bR rfl (List.length_map _))⟩,⟨.opt ((((decide ((l0.Sets.length:Int) = 0)) && (decide ((l0.States.length:Int) = (l0.Bodies.length:Int)))) && (!x_1)) && x_2) (.ptr 101 5),fun _=>rfl,fun _=>by exact .guard ((((decide ((l0.Sets.length:Int) = 0)) && (decide ((l0.States.length:Int) = (l0.Bodies.length:Int)))) && (!x_1)) && x_2) 1 [] (.plain rfl) (dq _) rfl rfl (fun gg37=>trivial) (fun gg37=>ae du rfl rfl)⟩,⟨.opt ((((decide ((l0.Sets.length:Int) = 0)) && (decide ((l0.States.length:Int) = (l0.Bodies.length:Int)))) && (!x_1)) && x_2) (.one (.sl 1 (l0.Bodies.map eI))),fun _=>rfl,fun _=>by exact .guard ((((decide ((l0.Sets.length:Int) = 0)) && (decide ((l0.States.length:Int) = (l0.Bodies.length:Int)))) && (!x_1)) && x_2) 2 [44] (.plain rfl) (dq _) rfl rfl (fun gg38=>⟨gg38,trivial⟩) (fun gg38=>ag aN rfl rfl rfl)⟩,⟨.opt ((((decide ((l0.Sets.length:Int) = 0)) && (decide ((l0.States.length:Int) = (l0.Bodies.length:Int)))) && (!x_1)) && x_2) (.one (.i (l0.Bodies.length:Int))),fun _=>rfl,fun _=>by exact .guard ((((decide ((l0.Sets.length:Int) = 0)) && (decide ((l0.States.length:Int) = (l0.Bodies.length:Int)))) && (!x_1)) && x_2) 2 [45] (.plain rfl) (dq _) rfl rfl (fun gg39=>⟨gg39,trivial⟩) (fun gg39=>av bR rfl (List.length_map _))⟩,⟨.opt ((((decide ((l0.Sets.length:Int) = 0)) && (decide ((l0.States.length:Int) = (l0.Bodies.length:Int)))) && (!x_1)) && x_2) (.one (.bool (decide ((x_3.length:Int) = (l0.Bodies.length:Int))))),fun _=>rfl,fun _=>by exact .guard ((((decide ((l0.Sets.length:Int) = 0)) && (decide ((l0.States.length:Int) = (l0.Bodies.length:Int)))) && (!x_1)) && x_2) 3 [43,46] (.plain rfl) (dq _) rfl rfl (fun gg40=>⟨gg40,gg40,trivial⟩) (fun gg40=>di rfl rfl)⟩,⟨B (((((decide ((l0.Sets.length:Int) = 0)) && (decide ((l0.States.length:Int) = (l0.Bodies.length:Int)))) && (!x_1)) && x_2) && (decide ((x_3.length:Int) = (l0.Bodies.length:Int)))),fun _=>rfl,fun _=>.p (by exact aT (fun e=>e) rfl rfl rfl rfl)⟩,⟨B (((((decide ((l0.Sets.length:Int) = 0)) && (decide ((l0.States.length:Int) = (l0.Bodies.length:Int)))) && (!x_1)) && x_2) && (decide ((x_3.length:Int) = (l0.Bodies.length:Int)))),fun _=>rfl,fun _=>.p (by exact dH rfl)⟩,trivial⟩,trivial⟩⟩) rfl rfl rfl [6] [1,2] (s':=⟨[(6,B (((((decide ((l0.Sets.length:Int) = 0)) && (decide ((l0.States.length:Int) = (l0.Bodies.length:Int)))) && (!x_1)) && x_2) && (decide ((x_3.length:Int) = (l0.Bodies.length:Int)))))],[(1,_),(2,_)]⟩) rfl ?_
 refine ab.ret ?_
 obtain rfl:=Option.some.inj h
 refine Fin.ai ⟨[(6,_)],[(1,_),(2,_)]⟩ rfl ?_
 exact Fin.result [.one (.bool (((((decide ((l0.Sets.length:Int) = 0)) && (decide ((l0.States.length:Int) = (l0.Bodies.length:Int)))) && (!x_1)) && x_2) && (decide ((x_3.length:Int) = (l0.Bodies.length:Int)))))] (.inl rfl) rfl (.cons (.tmp rfl) .nil) ⟨rfl,rfl⟩
def dX (F:Nat) (old0:List de) (bodies0:List Int) (states0:List de):Option (List de) :=
 Option.bind (mk? ([]:de) (old0.length:Int) (old0.length:Int)) (fun x_1=>Option.bind (iter F (eU fun out_3 x_4=>if (decide (x_4 < (bodies0.length:Int))) = true then (Option.bind ((aV bodies0 x_4).bind fun x_7=>(aV out_3 x_7).bind fun x_8=>if (decide (x_8 = [])) = true then ((aV states0 x_4).bind fun x_9=>(aV out_3 x_7).bind fun x_10=>some (out_3.set (x_7:Int).toNat x_9)) else (some out_3)) (fun out_6=>some (.inl (out_6,IntKind.i64.wrap (x_4 + 1))))) else (some (.inr out_3))) (mz x_1 old0,0)) (fun out_2=>some out_2))
theorem jT (kr0:Nat) {F:Nat} {old0:List de} {bodies0:List Int} {states0:List de} {r:(List de)} (h:dX F old0 bodies0 states0 = some r):aA Try.prog [] 54 [] [.one (.sl 1 (old0.map eS)),.one (.sl 1 (bodies0.map eI)),.one (.sl 1 (states0.map eS))] (Is [(kr0,.row 9 1 (r.map eS))] (.b (.row kr0))):=by
 unfold dX at h
 refine aA.intro 37 Try.func54 Try.ntmps54 rfl (by simp) fun E=>?_
 show ab _ E ⟨37,[],[],[]⟩ _ ⟨[(0,.b (.one (.sl 1 (old0.map eS)))),(1,.b (.one (.sl 1 (bodies0.map eI)))),(2,.b (.one (.sl 1 (states0.map eS))))],[]⟩ _
 refine ab.seq (ab.aa ?_)
 refine Oc oa (af.ak ⟨[(0,.b (.one (.sl 1 (old0.map eS)))),(1,.b (.one (.sl 1 (bodies0.map eI)))),(2,.b (.one (.sl 1 (states0.map eS))))],[]⟩ rfl (ab.seq (ab.aa ?_)))
 refine Oc om (Oc (av lM rfl (List.length_map _)) ?_)
 obtain ⟨x_1,e1,h⟩:=aP h
 refine Oc (cA (k:=101) (enc:=eS) cw e1 (by decide) (.cons .refl .nil) rfl rfl rfl) (Oc oa ?_)
 refine af.ak ⟨[(0,_),(1,_),(2,_),(7,.b (.row 101))],[(101,.row 9 1 (x_1.map eS))]⟩ rfl (ab.seq (ab.aa ?_))
 refine Oc om (Oc om (Oc (uv cw rfl rfl rfl (yP _ _ _) rfl rfl rfl) ?_))
 refine af.ak ⟨[(1,_),(2,_),(7,_)],[(101,.row 9 1 ((mz x_1 old0).map eS))]⟩ rfl ?_
 obtain ⟨v2,h3,h⟩:=aP h
 refine ab.ca (v:=v2) (fun (out_2:List de)=>⟨[(7,.b (.row 101))],[(101,.row 9 1 (out_2.map eS))]⟩) (fun z=>z) ?_ ?_
 ·refine ab.seq (ab.aa ?_)
  refine Oc om (Oc (av bR rfl (List.length_map _)) (Oc om ?_))
  refine af.ak ⟨[(2,_),(7,_),(16,.b (.one (.sl 1 (bodies0.map eI)))),(17,I (bodies0.length:Int)),(18,I 0)],[(101,_)]⟩ rfl (ab.block (ab.bZ h3 (eU fun (out_3:List de) (x_4:Int)=>⟨[(2,.b (.one (.sl 1 (states0.map eS)))),(7,.b (.row 101)),(16,.b (.one (.sl 1 (bodies0.map eI)))),(17,I (bodies0.length:Int)),(18,I x_4)],[(101,.row 9 1 (out_3.map eS))]⟩) [2,7,16,17,18] [101] rfl ?_))
  rintro ⟨out_3,x_4⟩ o4 h5 hy6
  refine ab.seq (ab.aa ?_)
  refine Oc (aY rfl rfl) (af.ak ⟨[(2,_),(7,_),(16,_),(17,_),(18,_),(19,B (decide (x_4 < (bodies0.length:Int))))],[(101,_)]⟩ rfl (ab.seq (ab.ite h5 rfl (fun _ h5=>?_) (fun _ h5=>?_))))
  ·refine ab.skip (Fin.ai ⟨[(2,_),(7,_),(16,_),(17,_),(18,_)],[(101,_)]⟩ rfl (Fin.then ?_))
   obtain ⟨v7,h8,h5⟩:=aP h5
   refine ab.ca (v:=v7) (fun (out_6:List de)=>⟨[(2,.b (.one (.sl 1 (states0.map eS)))),(7,.b (.row 101)),(16,.b (.one (.sl 1 (bodies0.map eI)))),(17,I (bodies0.length:Int)),(18,I x_4)],[(101,.row 9 1 (out_6.map eS))]⟩) (fun z=>z) ?_ ?_
   ·refine ab.block (ab.seq (ab.aa ?_))
    refine Oc om ?_
    obtain ⟨x_7,e9,h8⟩:=aP h8
    refine Oc (an aQ (aL e9) (aB (e:=eI) e9) rfl rfl) (Oc (au aD rfl rfl) (Oc oa (Oc oa ?_)))
    refine af.ak ⟨[(2,_),(7,_),(8,I x_4),(9,I x_7),(16,_),(17,_),(18,_)],[(101,_)]⟩ rfl (ab.seq (ab.aa ?_))
    refine Oc om (Oc om ?_)
    obtain ⟨x_8,e10,h8⟩:=aP h8
    refine Oc (bq cw (aL e10) (dy e10) rfl rfl rfl rfl) (Oc (cS (i:=(x_7:Int).toNat) (f:=0) fG rfl rfl rfl (aB (e:=eS) e10) rfl) (Oc (hX rfl rfl) ?_))
    refine af.ak ⟨[(2,_),(7,_),(8,_),(9,_),(16,_),(17,_),(18,_),(27,B (decide (x_8 = [])))],[(101,_)]⟩ rfl (ab.ite h8 rfl (fun _ h8=>?_) (fun _ h8=>?_))
    ·refine ab.aa (Oc om (Oc om (Oc om (Oc om ?_))))
     obtain ⟨x_9,e11,h8⟩:=aP h8
     refine Oc (an cw (aL e11) (aB (e:=eS) e11) rfl rfl) (Oc (au fG rfl rfl) ?_)
     obtain ⟨x_10,e12,h8⟩:=aP h8
     refine Oc (bq cw (aL e12) (dy e12) rfl rfl rfl rfl) (Oc (fi (i:=(x_7:Int).toNat) fG rfl rfl rfl rfl (nD e12) (map_set _ _ _ _)) ?_)
     refine af.nil (Fin.ar ?_)
     exact Fin.join [2,7,16,17,18] [101] (out_3.set (x_7:Int).toNat x_9) (Option.some.inj h8) rfl
    ·refine ab.skip (Fin.ar ?_)
     exact Fin.join [2,7,16,17,18] [101] out_3 (Option.some.inj h8) rfl
   ·rintro out_6 hv
    subst v7
    refine ab.aa (Oc (bh rfl rfl) (Oc om ?_))
    refine af.nil ?_
    exact Fin.bp [2,7,16,17,18] [101] (out_6,IntKind.i64.wrap (x_4 + 1)) (Option.some.inj h5) rfl
  ·refine ab.exit (Fin.aq ?_)
   obtain rfl:=hy6 _ (Option.some.inj h5).symm
   refine Fin.aq (Fin.aE ?_)
   exact Fin.join [7] [101] out_3 rfl rfl
 ·rintro out_2 hv
  subst v2
  refine ab.seq (ab.aa ?_)
  refine Oc om (Oc oa ?_)
  refine af.ak ⟨[(6,.b (.row 101))],[(101,_)]⟩ rfl (ab.ret ?_)
  obtain rfl:=Option.some.inj h
  refine Fin.ai ⟨[(6,_)],[(101,_)]⟩ rfl (Fin.dD 101 kr0 [.row 101] (.inl rfl) rfl (.cons (.tmp rfl) .nil) rfl rfl rfl rfl ⟨rfl,rfl⟩)
def dh (F:Nat) (l0:aI) (n0r:Round) (n0out:List aI):Option Round :=
 (cR F l0 l0.From n0r n0out).bind fun x_1=>if x_1 = true then ((dX F n0r.States l0.Bodies l0.States).bind fun x_2=>some (⟨n0r.Me,n0r.Regions,n0r.Step,n0r.Home,n0r.Heard,n0r.Sets,x_2,n0r.Tasks,n0r.Done,n0r.Results⟩:Round)) else (some n0r)
theorem ns {F:Nat} {l0:aI} {n0r:Round} {n0out:List aI} {r:Round} (h:dh F l0 n0r n0out = some r):aA Try.prog [] 63 [(1,.aW 95 [.one (.i n0r.Me),.one (.i n0r.Regions),.one (.i n0r.Step),.one (.sl 1 (n0r.Home.map eI)),.one (.sl 1 (n0r.Heard.map eB)),.one (.sl 1 (n0r.Sets.map (eL 1 eI))),.one (.sl 1 (n0r.States.map eS)),.one (.sl 3 (n0r.Tasks.map ao)),.one (.sl 1 (n0r.Done.map eB)),.one (.sl 1 (n0r.Results.map eS)),.row 2]),(2,.row 42 7 (n0out.map ah))] [.ptr 1 0,.agg (ah l0)] (Is [(1,.aW 95 [.one (.i r.Me),.one (.i r.Regions),.one (.i r.Step),.one (.sl 1 (r.Home.map eI)),.one (.sl 1 (r.Heard.map eB)),.one (.sl 1 (r.Sets.map (eL 1 eI))),.one (.sl 1 (r.States.map eS)),.one (.sl 3 (r.Tasks.map ao)),.one (.sl 1 (r.Done.map eB)),.one (.sl 1 (r.Results.map eS)),.row 2]),(2,.row 42 7 (n0out.map ah))] (.gR [])):=by
 unfold dh at h
 refine aA.intro 23 Try.func63 Try.ntmps63 rfl (by simp) fun E=>?_
 show ab _ E ⟨23,[1],[1,2],[]⟩ _ ⟨[(0,Pt 1 0),(1,.b (.agg (ah l0)))],[(1,.aW 95 [.one (.i n0r.Me),.one (.i n0r.Regions),.one (.i n0r.Step),.one (.sl 1 (n0r.Home.map eI)),.one (.sl 1 (n0r.Heard.map eB)),.one (.sl 1 (n0r.Sets.map (eL 1 eI))),.one (.sl 1 (n0r.States.map eS)),.one (.sl 3 (n0r.Tasks.map ao)),.one (.sl 1 (n0r.Done.map eB)),.one (.sl 1 (n0r.Results.map eS)),.row 2]),(2,.row 42 7 (n0out.map ah))]⟩ _
 refine ab.seq (ab.aa ?_)
 refine Oc (fv (k:=101) rfl rfl) (af.ak ⟨[(0,Pt 1 0),(3,Pt 101 0)],[(1,.aW 95 [.one (.i n0r.Me),.one (.i n0r.Regions),.one (.i n0r.Step),.one (.sl 1 (n0r.Home.map eI)),.one (.sl 1 (n0r.Heard.map eB)),.one (.sl 1 (n0r.Sets.map (eL 1 eI))),.one (.sl 1 (n0r.States.map eS)),.one (.sl 3 (n0r.Tasks.map ao)),.one (.sl 1 (n0r.Done.map eB)),.one (.sl 1 (n0r.Results.map eS)),.row 2]),(2,.row 42 7 (n0out.map ah)),(101,.box 42 (ah l0))]⟩ rfl (ab.seq (ab.aa ?_)))
 refine Oc om (Oc (lp gb) (Oc (ae dR rfl rfl) (Oc (ag aD rfl rfl rfl) ?_)))
 obtain ⟨x_1,e1,h⟩:=aP h
 refine Oc (bL (own_a:=[(1,_),(2,_)]) (jE e1) xR rfl ⟨rfl,rfl,trivial⟩ rfl rfl) (af.ak ⟨[(0,_),(3,_),(8,B x_1)],[(1,_),(2,_),(101,_)]⟩ rfl (ab.ite h rfl (fun _ h=>?_) (fun _ h=>?_)))
 ·refine ab.ai ⟨[(0,_),(3,_)],[(1,_),(2,_),(101,_)]⟩ rfl ?_
  obtain ⟨x_2,e2,h⟩:=aP h
  refine ab.fy mixed 14 [Pt 1 0,Pt 1 0,Pt 1 0,Pt 1 0,Pt 1 6,.b (.one (.sl 1 (n0r.States.map eS))),Pt 101 5,.b (.one (.sl 1 (l0.Bodies.map eI))),Pt 101 6,.b (.one (.sl 1 (l0.States.map eS))),.b (.one (.sl 1 (x_2.map eS))),Pt 1 0,Pt 1 0,Pt 1 6] [] [1,2] (s':=⟨[],[(1,.aW 95 [.one (.i n0r.Me),.one (.i n0r.Regions),.one (.i n0r.Step),.one (.sl 1 (n0r.Home.map eI)),.one (.sl 1 (n0r.Heard.map eB)),.one (.sl 1 (n0r.Sets.map (eL 1 eI))),.one (.sl 1 (x_2.map eS)),.one (.sl 3 (n0r.Tasks.map ao)),.one (.sl 1 (n0r.Done.map eB)),.one (.sl 1 (n0r.Results.map eS)),.row 2]),(2,_)]⟩) rfl ⟨fun _=>.p om,fun _=>.p om,fun _=>.p (aG rfl),fun _=>.p (ae bm rfl rfl),fun _=>.p (ae gO rfl rfl),fun _=>.p (aX b6 rfl rfl rfl),fun _=>.p (ae du rfl rfl),fun _=>.p (ag aN rfl rfl rfl),fun _=>.p (ae fK rfl rfl),fun _=>.p (ag b6 rfl rfl rfl),fun _=>.p (az (jT 0 e2).fp u5 rfl rfl),fun _=>.p (aG rfl),fun _=>.p (ae bm rfl rfl),fun _=>.p (ae gO rfl rfl),trivial⟩ ⟨_,by exact .p (fU b6 rfl rfl rfl rfl (Nat.le_of_ble_eq_true rfl) rfl),rfl⟩ rfl ?_
  obtain rfl:=Option.some.inj h
  refine Fin.ai ⟨[],[(1,_),(2,_)]⟩ rfl ?_
  exact Fin.result [] (.inr rfl) rfl (.nil) ⟨rfl,rfl⟩
 ·refine ab.skip ?_
  obtain rfl:=Option.some.inj h
  refine Fin.ai ⟨[],[(1,_),(2,_)]⟩ rfl ?_
  exact Fin.result [] (.inr rfl) rfl (.nil) ⟨rfl,rfl⟩
def eH (F:Nat) (s0:List Int) (v0:Int):Option Int :=
 Option.bind (iter F (fun x_1=>if (decide (x_1 < (s0.length:Int))) = true then ((aV s0 x_1).bind fun x_2=>if (decide (v0 = x_2)) = true then (some (.inr (.inr x_1))) else (some (.inl (IntKind.i64.wrap (x_1 + 1))))) else (some (.inr (.inl ())))) 0) (bG (fun _=>some (-1)) (fun y=>some y))
theorem oA {F:Nat} {s0:List Int} {v0:Int} {r:Int} (h:eH F s0 v0 = some r):aA Try.prog [] 97 [] [.one (.sl 1 (s0.map eI)),.one (.i v0)] (Is [] (.b (.one (.i r)))):=by
 unfold eH at h
 refine aA.intro 19 Try.func97 Try.ntmps97 rfl (by simp) fun E=>?_
 show ab _ E ⟨19,[],[],[]⟩ _ ⟨[(0,.b (.one (.sl 1 (s0.map eI)))),(1,I v0)],[]⟩ _
 refine ab.seq (ab.aa ?_)
 refine Oc oa (af.ak ⟨[(0,.b (.one (.sl 1 (s0.map eI)))),(1,I v0)],[]⟩ rfl ?_)
 obtain ⟨v1,h2,h⟩:=aP h
 refine ab.ca (v:=v1) (fun (_:Unit)=>⟨[],[]⟩) (fun z=>.inl z) ?_ ?_
 ·refine ab.seq (ab.aa ?_)
  refine Oc om (Oc (av bR rfl (List.length_map _)) (Oc om ?_))
  refine af.ak ⟨[(0,_),(1,_),(7,I (s0.length:Int)),(8,I 0)],[]⟩ rfl (ab.block (ab.bZ h2 (fun (x_1:Int)=>⟨[(0,.b (.one (.sl 1 (s0.map eI)))),(1,I v0),(7,I (s0.length:Int)),(8,I x_1)],[]⟩) [0,1,7,8] [] rfl ?_))
  rintro x_1 o3 h4 hy5
  refine ab.seq (ab.aa ?_)
  refine Oc (aY rfl rfl) (af.ak ⟨[(0,_),(1,_),(7,_),(8,_),(9,B (decide (x_1 < (s0.length:Int))))],[]⟩ rfl (ab.seq (ab.ite h4 rfl (fun _ h4=>?_) (fun _ h4=>?_))))
  ·refine ab.skip (Fin.ai ⟨[(0,_),(1,_),(7,_),(8,_)],[]⟩ rfl (Fin.then (ab.seq (ab.block (ab.seq (ab.aa ?_))))))
   refine Oc om (Oc oa ?_)
   refine af.ak ⟨[(0,_),(1,_),(5,I x_1),(7,_),(8,_)],[]⟩ rfl (ab.seq (ab.aa ?_))
   refine Oc om (Oc om (Oc om ?_))
   obtain ⟨x_2,e6,h4⟩:=aP h4
   refine Oc (an aQ (aL e6) (aB (e:=eI) e6) rfl rfl) (Oc (au aD rfl rfl) (Oc (di rfl rfl) ?_))
   refine af.ak ⟨[(0,_),(1,_),(5,_),(7,_),(8,_),(16,B (decide (v0 = x_2)))],[]⟩ rfl (ab.ite h4 rfl (fun _ h4=>?_) (fun _ h4=>?_))
   ·refine ab.seq (ab.aa ?_)
    refine Oc om (Oc oa ?_)
    refine af.ak ⟨[(4,I x_1)],[]⟩ rfl (ab.ret (Fin.aJ (Fin.aw ?_)))
    obtain rfl:=hy5 _ (Option.some.inj h4).symm
    refine Fin.aw (Fin.aJ (Fin.aw ?_))
    obtain rfl:=Option.some.inj h
    refine Fin.ai ⟨[(4,_)],[]⟩ rfl (Fin.aM [.one (.i x_1)] (.inl rfl) rfl (.cons (.tmp rfl) .nil) ⟨rfl,rfl⟩)
   ·refine ab.skip (Fin.ar (Fin.ai ⟨[(0,_),(1,_),(7,_),(8,_)],[]⟩ rfl (Fin.then (ab.aa ?_))))
    refine Oc (bh rfl rfl) (Oc om ?_)
    refine af.nil ?_
    exact Fin.bp [0,1,7,8] [] (IntKind.i64.wrap (x_1 + 1)) (Option.some.inj h4) rfl
  ·refine ab.exit (Fin.aq ?_)
   obtain rfl:=hy5 _ (Option.some.inj h4).symm
   refine Fin.aq (Fin.aE ?_)
   exact Fin.join [] [] () rfl rfl
 ·rintro _ hv
  subst v1
  refine ab.seq (ab.aa ?_)
  refine Oc oa (af.ak ⟨[(4,I (-1))],[]⟩ rfl (ab.ret ?_))
  obtain rfl:=Option.some.inj h
  refine Fin.ai ⟨[(4,_)],[]⟩ rfl (Fin.aM [.one (.i (-1))] (.inl rfl) rfl (.cons (.tmp rfl) .nil) ⟨rfl,rfl⟩)
def df (F:Nat) (s0:List Int) (v0:Int):Option Bool :=
 (eH F s0 v0).bind fun x_1=>some (decide (0 ≤ x_1))
theorem nm {F:Nat} {s0:List Int} {v0:Int} {r:Bool} (h:df F s0 v0 = some r):aA Try.prog [] 89 [] [.one (.sl 1 (s0.map eI)),.one (.i v0)] (Is [] (.b (.one (.bool r)))):=by
 unfold df at h
 refine aA.intro 9 Try.func89 Try.ntmps89 rfl (by simp) fun E=>?_
 show ab _ E ⟨9,[],[],[]⟩ _ ⟨[(0,.b (.one (.sl 1 (s0.map eI)))),(1,I v0)],[]⟩ _
 refine ab.seq (ab.aa ?_)
 refine Oc oa (af.ak ⟨[(0,.b (.one (.sl 1 (s0.map eI)))),(1,I v0)],[]⟩ rfl (ab.seq (ab.aa ?_)))
 refine Oc om (Oc om ?_)
 obtain ⟨x_1,e1,h⟩:=aP h
 refine Oc (az (oA e1) goes97 rfl rfl) (Oc (gk rfl rfl) (Oc oa ?_))
 refine af.ak ⟨[(4,B (decide (0 ≤ x_1)))],[]⟩ rfl (ab.ret ?_)
 obtain rfl:=Option.some.inj h
 refine Fin.ai ⟨[(4,_)],[]⟩ rfl (Fin.aM [.one (.bool (decide (0 ≤ x_1)))] (.inl rfl) rfl (.cons (.tmp rfl) .nil) ⟨rfl,rfl⟩)
def cG (F:Nat) (t0:Task) (v0cKind:Int) (v0cStep:Int) (v0cFrom:Int) (v0cTo:Int) (v0cSets:List (List Int)) (v0cBodies:List Int) (v0cStates:List de) (v1c:Int):Option Bool :=
 (aK (decide (t0.Owner = v0cFrom)) (df F t0.Bodies v1c)).bind fun x_1=>some ((decide (t0.Owner = v0cFrom)) && x_1)
theorem lI {F:Nat} {t0:Task} {v0cKind:Int} {v0cStep:Int} {v0cFrom:Int} {v0cTo:Int} {v0cSets:List (List Int)} {v0cBodies:List Int} {v0cStates:List de} {v1c:Int} {r:Bool} (h:cG F t0 v0cKind v0cStep v0cFrom v0cTo v0cSets v0cBodies v0cStates v1c = some r):aA Try.prog [] 88 [(1,.box 42 [.i v0cKind,.i v0cStep,.i v0cFrom,.i v0cTo,.sl 1 (v0cSets.map (eL 1 eI)),.sl 1 (v0cBodies.map eI),.sl 1 (v0cStates.map eS)]),(2,.box 3 [.i v1c])] [.agg (ao t0),.ptr 1 0,.ptr 2 0] (Is [(1,.box 42 [.i v0cKind,.i v0cStep,.i v0cFrom,.i v0cTo,.sl 1 (v0cSets.map (eL 1 eI)),.sl 1 (v0cBodies.map eI),.sl 1 (v0cStates.map eS)]),(2,.box 3 [.i v1c])] (.b (.one (.bool r)))):=by
 unfold cG at h
 refine aA.intro 16 Try.func88 Try.ntmps88 rfl (by simp) fun E=>?_
 show ab _ E ⟨16,[1,2],[1,2],[]⟩ _ ⟨[(0,.b (.agg (ao t0))),(1,Pt 1 0),(2,Pt 2 0)],[(1,.box 42 [.i v0cKind,.i v0cStep,.i v0cFrom,.i v0cTo,.sl 1 (v0cSets.map (eL 1 eI)),.sl 1 (v0cBodies.map eI),.sl 1 (v0cStates.map eS)]),(2,.box 3 [.i v1c])]⟩ _
 refine ab.seq (ab.aa ?_)
 refine Oc (fv (k:=101) rfl rfl) (Oc oa ?_)
 refine af.ak ⟨[(1,Pt 1 0),(2,Pt 2 0),(3,Pt 101 0)],[(1,.box 42 [.i v0cKind,.i v0cStep,.i v0cFrom,.i v0cTo,.sl 1 (v0cSets.map (eL 1 eI)),.sl 1 (v0cBodies.map eI),.sl 1 (v0cStates.map eS)]),(2,.box 3 [.i v1c]),(101,.box 59 (ao t0))]⟩ rfl (ab.seq (ab.aa ?_))
 refine Oc (ae fJ rfl rfl) (Oc (ag aD rfl rfl rfl) (Oc (ae dR rfl rfl) (Oc (ag aD rfl rfl rfl) (Oc (di rfl rfl) (Oc om ?_)))))
 refine dt (decide (t0.Owner = v0cFrom)) [] (fun g1=>trivial) (fun g1=>ae dE rfl rfl) (af.ai ⟨[(2,_),(10,B (decide (t0.Owner = v0cFrom))),(11,.opt (decide (t0.Owner = v0cFrom)) (.ptr 101 1))],[(1,_),(2,_),(101,_)]⟩ rfl (dt (decide (t0.Owner = v0cFrom)) [11] (fun g2=>⟨g2,trivial⟩) (fun g2=>ag aN rfl rfl rfl) (dt (decide (t0.Owner = v0cFrom)) [] (fun g3=>trivial) (fun g3=>ag aD rfl rfl rfl) ?_)))
 obtain ⟨x_1,e5,h⟩:=aP h
 refine dt (decide (t0.Owner = v0cFrom)) [12,13] (fun g4=>⟨g4,g4,trivial⟩) (fun g4=>az (nm (gc e5 g4)) goes89 rfl rfl) (Oc (aT (fun e=>e) rfl rfl rfl rfl) (Oc oa ?_))
 refine af.ak ⟨[(4,B ((decide (t0.Owner = v0cFrom)) && x_1))],[(1,_),(2,_)]⟩ rfl (ab.ret ?_)
 obtain rfl:=Option.some.inj h
 refine Fin.ai ⟨[(4,_)],[(1,_),(2,_)]⟩ rfl ?_
 exact Fin.result [.one (.bool ((decide (t0.Owner = v0cFrom)) && x_1))] (.inl rfl) rfl (.cons (.tmp rfl) .nil) ⟨rfl,rfl⟩
end Go.Proofs.Ytnpddoaeoefcnaa

