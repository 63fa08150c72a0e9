/- part of the proof: the denotation of a walk -/
import Derived.Test.YtpkheobgojeapaaGreatDoorF3
import Derived.Shelf.LaysM
import Derived.Shelf.Strconv.Itoa3
import Derived.Shelf.Strings.Repeat
import Derived.Shelf.Strings.OnBuilder
import Derived.Shelf.Strings.Prefix
import Derived.Shelf.Strings.Cut
import Derived.Shelf.Strings.Search1
import Derived.Ground.NamesProg
import Derived.Test.YtpkheobgojeapaaGreatDoorProg
import Derived.Lib.UnsafeStr
namespace Go.Proofs
open Go.Shelf
def Tryz.C4:Go.Shelf.Ren:=⟨fun | 171=>166 | 243=>191 | 246=>204 | 283=>220 | 284=>221 | 285=>222 | 286=>223 | 129=>237 | 317=>236 | 318=>238 | 319=>239 | 320=>240 | 337=>251 | 338=>252 | n=>n,fun | 3=>3 | 9=>9 | 2=>2 | 4=>4 | 171=>259 | 0=>0 | 53=>210 | 37=>77 | 5=>5 | 173=>262 | 212=>276 | 51=>22 | 20=>20 | 213=>277 | 46=>175 | 232=>307 | 233=>308 | n=>n,fun | 17=>3 | 18=>4 | 19=>5 | n=>n⟩
theorem Tryz.Kh:Go.Proofs.LaysM.n171 Tryz.prog Tryz.C4:={
 mixed:=by kernel_rfl
 f129:=Tryz.func237.trans (congrArg some (by kernel_rfl))
 f171:=Tryz.func166.trans (congrArg some (by kernel_rfl))
 f243:=Tryz.func191.trans (congrArg some (by kernel_rfl))
 f246:=Tryz.func204.trans (congrArg some (by kernel_rfl))
 f283:=Tryz.func220.trans (congrArg some (by kernel_rfl))
 f284:=Tryz.func221.trans (congrArg some (by kernel_rfl))
 f285:=Tryz.func222.trans (congrArg some (by kernel_rfl))
 f286:=Tryz.func223.trans (congrArg some (by kernel_rfl))
 f317:=Tryz.func236.trans (congrArg some (by kernel_rfl))
 f318:=Tryz.func238.trans (congrArg some (by kernel_rfl))
 f319:=Tryz.func239.trans (congrArg some (by kernel_rfl))
 f320:=Tryz.func240.trans (congrArg some (by kernel_rfl))
 f337:=Tryz.func251.trans (congrArg some (by kernel_rfl))
 f338:=Tryz.func252.trans (congrArg some (by kernel_rfl))
 t0:=Tryz.underlying0
 a0:=Tryz.isAgg0
 z0:=Tryz.sizeOf0
 v0:=Tryz.zeroValue0
 t2:=Tryz.underlying2
 a2:=Tryz.isAgg2
 z2:=Tryz.sizeOf2
 v2:=Tryz.zeroValue2
 t3:=Tryz.underlying3
 a3:=Tryz.isAgg3
 z3:=Tryz.sizeOf3
 v3:=Tryz.zeroValue3
 t4:=Tryz.underlying4
 a4:=Tryz.isAgg4
 z4:=Tryz.sizeOf4
 v4:=Tryz.zeroValue4
 t5:=Tryz.underlying5
 a5:=Tryz.isAgg5
 z5:=Tryz.sizeOf5
 v5:=Tryz.zeroValue5
 t9:=Tryz.underlying9
 a9:=Tryz.isAgg9
 z9:=Tryz.sizeOf9
 v9:=Tryz.zeroValue9
 t20:=Tryz.underlying20
 a20:=Tryz.isAgg20
 z20:=Tryz.sizeOf20
 v20:=Tryz.zeroValue20
 t37:=Tryz.underlying77
 a37:=Tryz.isAgg77
 z37:=Tryz.sizeOf77
 v37:=Tryz.zeroValue77
 t46:=Tryz.underlying175
 a46:=Tryz.isAgg175
 z46:=Tryz.sizeOf175
 v46:=Tryz.zeroValue175
 t51:=Tryz.underlying22
 a51:=Tryz.isAgg22
 z51:=Tryz.sizeOf22
 v51:=Tryz.zeroValue22
 t53:=Tryz.underlying210
 a53:=Tryz.isAgg210
 z53:=Tryz.sizeOf210
 v53:=Tryz.zeroValue210
 t171:=Tryz.underlying259
 a171:=Tryz.isAgg259
 z171:=Tryz.sizeOf259
 v171:=Tryz.zeroValue259
 t173:=Tryz.underlying262
 a173:=Tryz.isAgg262
 z173:=Tryz.sizeOf262
 v173:=Tryz.zeroValue262
 t212:=Tryz.underlying276
 a212:=Tryz.isAgg276
 z212:=Tryz.sizeOf276
 v212:=Tryz.zeroValue276
 t213:=Tryz.underlying277
 a213:=Tryz.isAgg277
 z213:=Tryz.sizeOf277
 t232:=Tryz.underlying307
 a232:=Tryz.isAgg307
 z232:=Tryz.sizeOf307
 v232:=Tryz.zeroValue307
 t233:=Tryz.underlying308
 a233:=Tryz.isAgg308
 z233:=Tryz.sizeOf308
 v233:=Tryz.zeroValue308
 g17:=by kernel_rfl
 g18:=by kernel_rfl
 g19:=by kernel_rfl
 i0:=by kernel_rfl
 i2:=by kernel_rfl
 i3:=by kernel_rfl
 i4:=by kernel_rfl
 i5:=by kernel_rfl
 i9:=by kernel_rfl
 i20:=by kernel_rfl
 i37:=by kernel_rfl
 i46:=by kernel_rfl
 i51:=by kernel_rfl
 i53:=by kernel_rfl
 i171:=by kernel_rfl
 i173:=by kernel_rfl
 i212:=by kernel_rfl
 i232:=by kernel_rfl
 i233:=by kernel_rfl
 m17:=by kernel_rfl
 m18:=by kernel_rfl
 m19:=by kernel_rfl }
def Tryz.yh:Go.Shelf.Ren:=⟨fun | 105=>53 | 212=>117 | 99=>91 | 165=>118 | 166=>52 | 170=>119 | 169=>66 | 263=>153 | 264=>154 | 206=>135 | 240=>116 | 241=>155 | 276=>152 | 277=>177 | n=>n,fun | 9=>9 | 3=>3 | 4=>4 | 20=>20 | 0=>0 | 46=>175 | 109=>176 | 5=>5 | 72=>79 | 76=>110 | 51=>22 | 146=>208 | 53=>210 | 148=>211 | 70=>76 | 37=>77 | 75=>109 | 127=>184 | 164=>206 | 80=>133 | n=>n,fun | n=>n⟩
theorem Tryz.lays105:Go.Proofs.Lays.n105 Tryz.prog Tryz.yh:={
 mixed:=by kernel_rfl
 f99:=Tryz.func91.trans (congrArg some (by kernel_rfl))
 f105:=Tryz.func53.trans (congrArg some (by kernel_rfl))
 f165:=Tryz.func118.trans (congrArg some (by kernel_rfl))
 f166:=Tryz.func52.trans (congrArg some (by kernel_rfl))
 f169:=Tryz.func66.trans (congrArg some (by kernel_rfl))
 f170:=Tryz.func119.trans (congrArg some (by kernel_rfl))
 f206:=Tryz.func135.trans (congrArg some (by kernel_rfl))
 f212:=Tryz.func117.trans (congrArg some (by kernel_rfl))
 f240:=Tryz.func116.trans (congrArg some (by kernel_rfl))
 f241:=Tryz.func155.trans (congrArg some (by kernel_rfl))
 f263:=Tryz.func153.trans (congrArg some (by kernel_rfl))
 f264:=Tryz.func154.trans (congrArg some (by kernel_rfl))
 f276:=Tryz.func152.trans (congrArg some (by kernel_rfl))
 f277:=Tryz.func177.trans (congrArg some (by kernel_rfl))
 t0:=Tryz.underlying0
 a0:=Tryz.isAgg0
 z0:=Tryz.sizeOf0
 v0:=Tryz.zeroValue0
 t3:=Tryz.underlying3
 a3:=Tryz.isAgg3
 z3:=Tryz.sizeOf3
 v3:=Tryz.zeroValue3
 t4:=Tryz.underlying4
 a4:=Tryz.isAgg4
 z4:=Tryz.sizeOf4
 v4:=Tryz.zeroValue4
 t5:=Tryz.underlying5
 a5:=Tryz.isAgg5
 z5:=Tryz.sizeOf5
 v5:=Tryz.zeroValue5
 t9:=Tryz.underlying9
 a9:=Tryz.isAgg9
 z9:=Tryz.sizeOf9
 v9:=Tryz.zeroValue9
 t20:=Tryz.underlying20
 a20:=Tryz.isAgg20
 z20:=Tryz.sizeOf20
 v20:=Tryz.zeroValue20
 t37:=Tryz.underlying77
 a37:=Tryz.isAgg77
 z37:=Tryz.sizeOf77
 v37:=Tryz.zeroValue77
 t46:=Tryz.underlying175
 a46:=Tryz.isAgg175
 z46:=Tryz.sizeOf175
 v46:=Tryz.zeroValue175
 t51:=Tryz.underlying22
 a51:=Tryz.isAgg22
 z51:=Tryz.sizeOf22
 v51:=Tryz.zeroValue22
 t53:=Tryz.underlying210
 a53:=Tryz.isAgg210
 z53:=Tryz.sizeOf210
 v53:=Tryz.zeroValue210
 t70:=Tryz.underlying76
 a70:=Tryz.isAgg76
 z70:=Tryz.sizeOf76
 v70:=Tryz.zeroValue76
 t72:=Tryz.underlying79
 a72:=Tryz.isAgg79
 z72:=Tryz.sizeOf79
 v72:=Tryz.zeroValue79
 t75:=Tryz.underlying109
 a75:=Tryz.isAgg109
 z75:=Tryz.sizeOf109
 v75:=Tryz.zeroValue109
 t76:=Tryz.underlying110
 a76:=Tryz.isAgg110
 z76:=Tryz.sizeOf110
 v76:=Tryz.zeroValue110
 t109:=Tryz.underlying176
 a109:=Tryz.isAgg176
 z109:=Tryz.sizeOf176
 v109:=Tryz.zeroValue176
 t127:=Tryz.underlying184
 a127:=Tryz.isAgg184
 z127:=Tryz.sizeOf184
 v127:=Tryz.zeroValue184
 t146:=Tryz.underlying208
 a146:=Tryz.isAgg208
 z146:=Tryz.sizeOf208
 v146:=Tryz.zeroValue208
 t148:=Tryz.underlying211
 a148:=Tryz.isAgg211
 z148:=Tryz.sizeOf211
 v148:=Tryz.zeroValue211
 t164:=Tryz.underlying206
 a164:=Tryz.isAgg206
 z164:=Tryz.sizeOf206
 v164:=Tryz.zeroValue206 }
theorem Tryz.wP:Builder.Extra Tryz.prog Tryz.yh:={
 sizeBuilder:=by kernel_rfl
 liesBuilder:=by kernel_rfl
 t5:=Tryz.underlying5
 a5:=Tryz.isAgg5
 z5:=Tryz.sizeOf5
 v5:=Tryz.zeroValue5
 infoByte:=by kernel_rfl
 cellsByte:=by kernel_rfl
 sizeByte:=by kernel_rfl
 neB5:=by decide }
def Tryz.yg:Go.Shelf.Ren:=⟨fun | 156=>190 | 165=>118 | 166=>52 | 169=>66 | 240=>116 | 241=>155 | 276=>152 | 277=>177 | n=>n,fun | 31=>107 | 9=>9 | 3=>3 | 4=>4 | 0=>0 | 20=>20 | 72=>79 | 76=>110 | 70=>76 | 37=>77 | 75=>109 | 127=>184 | 164=>206 | 5=>5 | 80=>133 | n=>n,fun | n=>n⟩
theorem Tryz.lays156:Go.Proofs.Lays.n156 Tryz.prog Tryz.yg:={
 mixed:=by kernel_rfl
 f156:=Tryz.func190.trans (congrArg some (by kernel_rfl))
 f165:=Tryz.func118.trans (congrArg some (by kernel_rfl))
 f166:=Tryz.func52.trans (congrArg some (by kernel_rfl))
 f169:=Tryz.func66.trans (congrArg some (by kernel_rfl))
 f240:=Tryz.func116.trans (congrArg some (by kernel_rfl))
 f241:=Tryz.func155.trans (congrArg some (by kernel_rfl))
 f276:=Tryz.func152.trans (congrArg some (by kernel_rfl))
 f277:=Tryz.func177.trans (congrArg some (by kernel_rfl))
 t0:=Tryz.underlying0
 a0:=Tryz.isAgg0
 z0:=Tryz.sizeOf0
 v0:=Tryz.zeroValue0
 t3:=Tryz.underlying3
 a3:=Tryz.isAgg3
 z3:=Tryz.sizeOf3
 v3:=Tryz.zeroValue3
 t4:=Tryz.underlying4
 a4:=Tryz.isAgg4
 z4:=Tryz.sizeOf4
 v4:=Tryz.zeroValue4
 t9:=Tryz.underlying9
 a9:=Tryz.isAgg9
 z9:=Tryz.sizeOf9
 v9:=Tryz.zeroValue9
 t20:=Tryz.underlying20
 a20:=Tryz.isAgg20
 z20:=Tryz.sizeOf20
 v20:=Tryz.zeroValue20
 t31:=Tryz.underlying107
 a31:=Tryz.isAgg107
 z31:=Tryz.sizeOf107
 v31:=Tryz.zeroValue107
 t37:=Tryz.underlying77
 a37:=Tryz.isAgg77
 z37:=Tryz.sizeOf77
 v37:=Tryz.zeroValue77
 t70:=Tryz.underlying76
 a70:=Tryz.isAgg76
 z70:=Tryz.sizeOf76
 v70:=Tryz.zeroValue76
 t72:=Tryz.underlying79
 a72:=Tryz.isAgg79
 z72:=Tryz.sizeOf79
 v72:=Tryz.zeroValue79
 t75:=Tryz.underlying109
 a75:=Tryz.isAgg109
 z75:=Tryz.sizeOf109
 v75:=Tryz.zeroValue109
 t76:=Tryz.underlying110
 a76:=Tryz.isAgg110
 z76:=Tryz.sizeOf110
 v76:=Tryz.zeroValue110
 t127:=Tryz.underlying184
 a127:=Tryz.isAgg184
 z127:=Tryz.sizeOf184
 v127:=Tryz.zeroValue184
 t164:=Tryz.underlying206
 a164:=Tryz.isAgg206
 z164:=Tryz.sizeOf206
 v164:=Tryz.zeroValue206 }
theorem Tryz.wO:Builder.Extra Tryz.prog Tryz.yg:={
 sizeBuilder:=by kernel_rfl
 liesBuilder:=by kernel_rfl
 t5:=Tryz.underlying5
 a5:=Tryz.isAgg5
 z5:=Tryz.sizeOf5
 v5:=Tryz.zeroValue5
 infoByte:=by kernel_rfl
 cellsByte:=by kernel_rfl
 sizeByte:=by kernel_rfl
 neB5:=by decide }
def Tryz.FY:Go.Shelf.Ren:=⟨fun | 99=>91 | 206=>135 | n=>n,fun | 9=>9 | 4=>4 | 3=>3 | n=>n,fun | n=>n⟩
theorem Tryz.lays99:Go.Proofs.Lays.n99 Tryz.prog Tryz.FY:={
 mixed:=by kernel_rfl
 f99:=Tryz.func91.trans (congrArg some (by kernel_rfl))
 f206:=Tryz.func135.trans (congrArg some (by kernel_rfl))
 t3:=Tryz.underlying3
 a3:=Tryz.isAgg3
 z3:=Tryz.sizeOf3
 v3:=Tryz.zeroValue3
 t4:=Tryz.underlying4
 a4:=Tryz.isAgg4
 z4:=Tryz.sizeOf4
 v4:=Tryz.zeroValue4
 t9:=Tryz.underlying9
 a9:=Tryz.isAgg9
 z9:=Tryz.sizeOf9
 v9:=Tryz.zeroValue9 }
def Tryz.wy:Go.Shelf.Ren:=⟨fun | 145=>206 | 220=>225 | 219=>232 | 217=>136 | 225=>247 | 224=>248 | 267=>249 | 266=>171 | 314=>257 | n=>n,fun | 9=>9 | 4=>4 | 59=>242 | 3=>3 | 5=>5 | 46=>175 | 146=>208 | 51=>22 | n=>n,fun | 1=>2 | n=>n⟩
theorem Tryz.Ki:Go.Proofs.LaysM.n145 Tryz.prog Tryz.wy:={
 mixed:=by kernel_rfl
 f145:=Tryz.func206.trans (congrArg some (by kernel_rfl))
 f217:=Tryz.func136.trans (congrArg some (by kernel_rfl))
 f219:=Tryz.func232.trans (congrArg some (by kernel_rfl))
 f220:=Tryz.func225.trans (congrArg some (by kernel_rfl))
 f224:=Tryz.func248.trans (congrArg some (by kernel_rfl))
 f225:=Tryz.func247.trans (congrArg some (by kernel_rfl))
 f266:=Tryz.func171.trans (congrArg some (by kernel_rfl))
 f267:=Tryz.func249.trans (congrArg some (by kernel_rfl))
 f314:=Tryz.func257.trans (congrArg some (by kernel_rfl))
 t3:=Tryz.underlying3
 a3:=Tryz.isAgg3
 z3:=Tryz.sizeOf3
 v3:=Tryz.zeroValue3
 t4:=Tryz.underlying4
 a4:=Tryz.isAgg4
 z4:=Tryz.sizeOf4
 v4:=Tryz.zeroValue4
 t5:=Tryz.underlying5
 a5:=Tryz.isAgg5
 z5:=Tryz.sizeOf5
 v5:=Tryz.zeroValue5
 t9:=Tryz.underlying9
 a9:=Tryz.isAgg9
 z9:=Tryz.sizeOf9
 v9:=Tryz.zeroValue9
 t46:=Tryz.underlying175
 a46:=Tryz.isAgg175
 z46:=Tryz.sizeOf175
 v46:=Tryz.zeroValue175
 t51:=Tryz.underlying22
 a51:=Tryz.isAgg22
 z51:=Tryz.sizeOf22
 v51:=Tryz.zeroValue22
 t59:=Tryz.underlying242
 a59:=Tryz.isAgg242
 z59:=Tryz.sizeOf242
 v59:=Tryz.zeroValue242
 t146:=Tryz.underlying208
 a146:=Tryz.isAgg208
 z146:=Tryz.sizeOf208
 v146:=Tryz.zeroValue208
 g1:=by kernel_rfl
 i3:=by kernel_rfl
 i4:=by kernel_rfl
 i5:=by kernel_rfl
 i9:=by kernel_rfl
 i46:=by kernel_rfl
 i51:=by kernel_rfl
 i59:=by kernel_rfl
 i146:=by kernel_rfl
 m1:=by kernel_rfl
 s1_3:=fun w h=>Go.Proofs.cell_of_shapedOpen_int (zero:=#[.int .i64 0]) (t:=3) h (of_decide_eq_true (by kernel_rfl)) (by kernel_rfl) rfl (by kernel_rfl) (by kernel_rfl) Tryz.underlying3 }
def Tryz.EL:Go.Shelf.Ren:=⟨fun | 217=>136 | 266=>171 | n=>n,fun | 9=>9 | 5=>5 | 3=>3 | n=>n,fun | n=>n⟩
theorem Tryz.lays217:Go.Proofs.Lays.n217 Tryz.prog Tryz.EL:={
 mixed:=by kernel_rfl
 f217:=Tryz.func136.trans (congrArg some (by kernel_rfl))
 f266:=Tryz.func171.trans (congrArg some (by kernel_rfl))
 t3:=Tryz.underlying3
 a3:=Tryz.isAgg3
 z3:=Tryz.sizeOf3
 v3:=Tryz.zeroValue3
 t5:=Tryz.underlying5
 a5:=Tryz.isAgg5
 z5:=Tryz.sizeOf5
 v5:=Tryz.zeroValue5
 t9:=Tryz.underlying9
 a9:=Tryz.isAgg9
 z9:=Tryz.sizeOf9
 v9:=Tryz.zeroValue9 }
end Go.Proofs
namespace Go.Dn
open Go Go.Sk Go.BigFrame
set_option linter.unusedVariables false
set_option linter.unusedSimpArgs false
set_option linter.unusedSectionVars false
def dY {κ α:Type} [DecidableEq κ]:List (κ × α) → κ → Option α
 | [],_=>none
 | (a,b) :: r,k=>if k = a then some b else dY r k
theorem mR {κ α β:Type} [DecidableEq κ] {f:α → β} {k:κ}:∀ {l:List (κ × α)},dY (l.map fun p=>(p.1,f p.2)) k = (dY l k).map f
 | []=>rfl
 | (a,b) :: l=>by
  simp only [List.map_cons,dY]
  split
  ·rfl
  ·exact mR
structure xR (P:Program) (kt:TypeId) {κ:Type} [DecidableEq κ] (kc:κ → CP) (kv:κ → Value) (d:TypeDesc):Prop where
 und:P.underlying kt = some d
 rel:∀ h a v,(kc a).rel h v → v = kv a
 same:∀ a b,Instr.sameNow d (kv a) (kv b) = some (decide (a = b))
 chk:∀ a e m w,(Instr.checkKey e (m + 1) kt (kv a)).run P w = .ok () w
theorem Fg {P:Program} {kt:TypeId} {kd:IntKind} (h:P.underlying kt = some (.int kd)):xR P kt (CP.int kd) (Value.int kd) (.int kd) :=
 ⟨h,fun _ _ _ h=>h.1,fun a b=>by simp only [Instr.sameNow]; congr 1,fun a e m w=>xG h a e m⟩
theorem zm {P:Program} {kt:TypeId} (h:P.underlying kt = some .string):xR P kt CP.str (fun s=>Value.string ⟨⟨s⟩⟩) .string :=
 ⟨h,fun _ _ _ h=>h.1,fun a b=>by
  simp only [Instr.sameNow]
  congr 1
  rw [Bool.eq_iff_iff]
  show ByteArray.instBEq.beq _ _ = true ↔ _
  unfold ByteArray.instBEq
  simp only [ByteArray.beq]
  simp,fun a e m w=>by
  unfold Instr.checkKey
  simp [Sem.run_bind,run_underlying h,Result.andThen]⟩
section
variable {P:Program} {TB:aF} {E:Env TB} {n:Sh} {s:St} {dst:Option Nat} {t ty kt et:TypeId} {pos:String} {after:Array Edge} {g:Option (Nat × Bool)} {x y c:Operand} {κ:Type} [DecidableEq κ] {kc:κ → CP} {kv:κ → Value} {d:TypeDesc} {z:BV}
def vo (kc:κ → CP) (l:List (κ × BV)):List (CP × BV):=l.map fun p=>(kc p.1,p.2)
theorem xx (hk:xR P kt kc kv d) {h:PH} {ρ:RM} (k:κ):∀ {l:List (κ × BV)} {ms:List MapEntry},pF h ρ (vo kc l) ms → ∀ i:Nat,
  (dY l k = none ∧ Instr.findNow d (kv k) ms i = some none) ∨ ∃ j e v,ms[j]? = some e ∧ dY l k = some v ∧ v.rel h ρ e.val ∧ Instr.findNow d (kv k) ms i = some (some (i + j,e.val))
 | [],_,.nil,i=>.inl ⟨rfl,rfl⟩
 | (a,b) :: r,e :: es,.cons h1 h2,i=>by
  have hkey:e.key = kv a:=hk.rel _ _ _ h1.1
  unfold dY Instr.findNow
  rw [hkey]
  by_cases hka:k = a
  ·subst hka
   refine .inr ⟨0,e,b,rfl,if_pos rfl,h1.2,by simp [hk.same]⟩
  ·have hne:Instr.sameNow d (kv k) (kv a) = some false:=by rw [hk.same]; simp [hka]
   simp only [hne,if_neg hka]
   rcases xx hk k h2 (i + 1) with ⟨g1,g2⟩ | ⟨j,e',v,g1,g3,g4,g5⟩
   ·exact .inl ⟨g1,g2⟩
   ·exact .inr ⟨j + 1,e',v,by simpa using g1,g3,g4,by rw [g5]; congr 3; omega⟩
structure sC (P:Program) (t kt et:TypeId) (z:BV):Prop where
 und:P.underlying t = some (.map kt et)
 zero:∃ i v,P.info? et = some i ∧ i.zero = some v ∧ ∀ h ρ,z.rel h ρ v
theorem wx (hk:xR P kt kc kv d) {h:PH} {ρ:RM} {w:World} (ht:sC P t kt et z) {l:List (κ × BV)} {b:Nat} {ms:Array MapEntry} {clk:Nat}
  (hb:w.heap[b]? = some (.map ms clk)) (he:pF h ρ (vo kc l) ms.toList) (k:κ) :
  ∃ v,((dY l k).getD z).rel h ρ v ∧ (Instr.lookup t (.map (some b)) (kv k) true).run P w = .ok (.tuple #[v,.bool (dY l k).isSome]) w ∧ (Instr.lookup t (.map (some b)) (kv k) false).run P w = .ok v w:=by
 obtain ⟨i,zz,hi,hzz,hzr⟩:=ht.zero
 have hck:=fun e=>hk.chk k e 9999 w
 rcases xx hk k he 0 with ⟨g1,g2⟩ | ⟨j,e,v,g1,g3,g4,g5⟩
 ·have hf:=nK (P:=P) (w:=w) hk.und g2
  have hzv:=DL (P:=P) (w:=w) hi hzz
  refine ⟨zz,by rw [g1]; exact hzr h ρ,?_,?_⟩
  ·simp [Instr.lookup,run_underlying ht.und,MapKept.run_getObj_map hb,hck,hf,hzv,Result.andThen,g1]
  ·simp [Instr.lookup,run_underlying ht.und,MapKept.run_getObj_map hb,hck,hf,hzv,Result.andThen]
 ·have hf:=nK (P:=P) (w:=w) hk.und g5
  refine ⟨e.val,by rw [g3]; exact g4,?_,?_⟩
  ·simp [Instr.lookup,run_underlying ht.und,MapKept.run_getObj_map hb,hck,hf,Result.andThen,g3]
  ·simp [Instr.lookup,run_underlying ht.und,MapKept.run_getObj_map hb,hck,hf,Result.andThen]
theorem evK (hk:xR P kt kc kv d) {k:κ} (hy:s.ev y = some (.b (.one (kc k)))) {ac:Act} {h:PH} {ρ:RM} (hs:bp h ρ s.slots ac.tmps):ac.eval y = kv k ∧ (kc k).rel h (ac.eval y):=by
 have:=(aC hs hy:(kc k).rel h _)
 exact ⟨hk.rel _ _ _ this,this⟩
theorem zM (hk:xR P kt kc kv d) (ht:sC P t kt et z) {l:List (κ × BV)} {j:Nat} {k:κ} {r:BV} (hx:s.ev x = some (.b (.row j))) (hj:lk s.own j = some (.mp (vo kc l))) (hy:s.ev y = some (.b (.one (kc k)))) (hr:(dY l k).getD z = r) :
  aR P E n ⟨dst,.lookup t x y true,ty,pos,after,g⟩ s (s.put n dst (.kU [r,.one (.bool (dY l k).isSome)])) :=
 aR.val (o:=⟨dst,.lookup t x y true,ty,pos,after,g⟩) fun ac w h ρ hw hs=>by
  have hv:ac.eval x = ρ j:=(aC hs hx:BV.rel h ρ (.row j) _)
  obtain ⟨b,ms,clk,h1,h2,h3,h4⟩:=zR hw hj
  obtain ⟨v,g1,g2,_⟩:=wx hk ht h2 h3 k
  refine ⟨_,?_,_,rfl,.cons (hr ▸ g1) (.cons rfl .nil)⟩
  simp only [execOp,hv,h1,(evK hk hy hs).1]
  simp [g2]
theorem DS (hk:xR P kt kc kv d) (ht:sC P t kt et z) {l:List (κ × BV)} {j:Nat} {k:κ} {r:BV} (hx:s.ev x = some (.b (.row j))) (hj:lk s.own j = some (.mp (vo kc l))) (hy:s.ev y = some (.b (.one (kc k)))) (hr:(dY l k).getD z = r) :
  aR P E n ⟨dst,.lookup t x y false,ty,pos,after,g⟩ s (s.put n dst (.b r)) :=
 aR.val (o:=⟨dst,.lookup t x y false,ty,pos,after,g⟩) fun ac w h ρ hw hs=>by
  have hv:ac.eval x = ρ j:=(aC hs hx:BV.rel h ρ (.row j) _)
  obtain ⟨b,ms,clk,h1,h2,h3,h4⟩:=zR hw hj
  obtain ⟨v,g1,_,g2⟩:=wx hk ht h2 h3 k
  refine ⟨_,?_,hr ▸ g1⟩
  simp only [execOp,hv,h1,(evK hk hy hs).1]
  simp [g2]
theorem Cr (hk:xR P kt kc kv d) (ht:sC P t kt et z) {l:List (κ × BV)} {j:Nat} {k:κ} {v:BV} (hx:s.ev x = some (.b (.row j))) (hj:lk s.own j = some (.mp (vo kc l))) (hy:s.ev y = some (.b (.one (kc k)))) (hc:s.ev c = some (.b v)) (hn:dY l k = none) :
  aR P E n ⟨none,.insert t x y c,ty,pos,after,g⟩ s ⟨s.slots,ins j (.mp (vo kc (l ++ [(k,v)]))) s.own⟩ :=
 aR.store (o:=⟨none,.insert t x y c,ty,pos,after,g⟩) rfl fun ac w h ρ hw hs=>by
  have hv:ac.eval x = ρ j:=(aC hs hx:BV.rel h ρ (.row j) _)
  obtain ⟨b,ms,clk,h1,h2,h3,h4⟩:=zR hw hj
  obtain ⟨hy1,hy2⟩:=evK hk hy hs
  have hcr:v.rel h ρ (ac.eval c):=aC hs hc
  have hck:=hk.chk k false 9999 w
  rcases xx hk k h3 0 with ⟨g1,g2⟩ | ⟨j',e,v',g1,g3,g4,g5⟩
  ·have hf:=nK (P:=P) (w:=w) hk.und g2
   refine ⟨{ w with heap:=w.heap.setIfInBounds b (.map (ms.push { key:=kv k,val:=ac.eval c,born:=clk }) (clk + 1)) },?_,hw.setMap hj h1 h2 (es':=vo kc (l ++ [(k,v)])) ?_ ?_⟩
   ·simp only [execOp,hv,h1,hy1]
    simp [Instr.mapUpdate,run_underlying ht.und,MapKept.run_getObj_map h2,hck,hf,MapKept.run_setObj_map _ h2,Result.andThen]
   ·unfold vo
    rw [List.map_append,Array.toList_push]
    exact aQ.append h3 (.cons ⟨by rw [← hy1]; exact hy2,hcr⟩ .nil)
   ·rw [Array.toList_push]
    refine ⟨fun e he'=>?_,?_⟩
    ·rcases List.mem_append.1 he' with h1 | h1
     ·have:=h4.1 e h1; omega
     ·rw [List.mem_singleton] at h1; subst h1; exact Nat.lt_succ_self _
    ·rw [List.map_append,List.nodup_append]
     refine ⟨h4.2,by simp,fun a ha b hb'=>?_⟩
     obtain ⟨e,he1,rfl⟩:=List.mem_map.1 ha
     have:=h4.1 e he1
     simp at hb'
     omega
  ·rw [hn] at g3; cases g3
end
end Go.Dn
namespace Go.Dn
open Go Go.Sk
set_option linter.unusedVariables false
set_option linter.unusedSimpArgs false
set_option linter.unusedSectionVars false
inductive DT (σ:Type) where
 | int (k:IntKind)
 | bool
 | str
 | sl (d:DT σ)
 | st (i:σ)
 | u
 deriving DecidableEq
inductive XC where
 | c
 | sp
 | r
 deriving DecidableEq
structure Dt where
 σ:Type
 T:σ → Type
 z:∀ i,T i
 e:∀ i,T i → List CP
 n:σ → Nat
 len:∀ i x,(e i x).length = n i
 xs:σ → List XC
 xw:∀ i,T i → Bool
variable {D:Dt}
@[reducible] def V (D:Dt):DT D.σ → Type
 | .int _=>Int
 | .bool=>Bool
 | .str=>Str
 | .sl d=>List (V D d)
 | .st i=>D.T i
 | .u=>Unit
def zv (D:Dt):(d:DT D.σ) → V D d
 | .int _=>(0:Int)
 | .bool=>false
 | .str=>([]:Str)
 | .sl d=>([]:List (V D d))
 | .st i=>D.z i
 | .u=>()
instance {d:DT D.σ}:Inhabited (V D d):=⟨zv D d⟩
def sz (D:Dt):DT D.σ → Nat
 | .st i=>D.n i
 | _=>1
def enc (D:Dt):(d:DT D.σ) → V D d → List CP
 | .int k,n=>[.int k n]
 | .bool,b=>[.bool b]
 | .str,s=>[.str s]
 | .sl d,l=>[.sl (sz D d) (l.map (enc D d))]
 | .st i,x=>D.e i x
 | .u,_=>[.any]
def iC (D:Dt):(d:DT D.σ) → V D d → BV
 | .int k,n=>.one (.int k n)
 | .bool,b=>.one (.bool b)
 | .str,s=>.one (.str s)
 | .sl d,l=>.one (.sl (sz D d) (l.map (enc D d)))
 | .st i,x=>.agg (D.e i x)
 | .u,_=>.one .any
theorem ca:∀ {d:DT D.σ} {v:V D d},(enc D d v).length = sz D d
 | .int _,_ | .bool,_ | .str,_ | .sl _,_ | .u,_=>by simp [enc,sz]
 | .st i,x=>D.len i x
def agg:DT D.σ → Bool
 | .st _=>true
 | _=>false
theorem ky {d:DT D.σ} {v:V D d} (h:agg d = false):∃ p,iC D d v = .one p ∧ enc D d v = [p]:=by
 cases d <;> first | exact ⟨_,rfl,rfl⟩ | cases h
theorem lg {d:DT D.σ} {v:V D d} (h:agg d = true):iC D d v = .agg (enc D d v):=by
 cases d <;> first | rfl | cases h
@[reducible] def HT (D:Dt):List (DT D.σ) → Type
 | []=>Unit
 | d :: l=>V D d × HT D l
def jj:(l:List (DT D.σ)) → HT D l → List CP
 | [],_=>[]
 | d :: l,h=>enc D d h.1 ++ jj l h.2
structure AV (D:Dt) (i:D.σ) where
 d:DT D.σ
 n:Nat
 al:D.T i → List (V D d)
 ao:List (V D d) → D.T i
 h1:∀ x,(al x).length = n
 h2:∀ l,l.length = n → al (ao l) = l
 h3:∀ x,D.e i x = ((al x).map (enc D d)).flatten
structure Lay (D:Dt) where
 fs:D.σ → List (DT D.σ)
 un:∀ i,D.T i → HT D (fs i)
 pk:∀ i,HT D (fs i) → D.T i
 eu:∀ i x,D.e i x = jj (fs i) (un i x)
 um:∀ i h,un i (pk i h) = h
 ar:∀ i,Option (AV D i)
theorem CC {m:Nat}:∀ {es:List (List CP)} {k:Nat} {ps:List CP},(∀ q ∈ es,q.length = m) → es[k]? = some ps → (es.flatten.drop (k * m)).take m = ps ∧ k * m + m ≤ es.flatten.length
 | [],k,ps,_,h=>by simp at h
 | e :: es,0,ps,hu,h=>by
  have he:=hu e List.mem_cons_self
  have:e = ps:=by simpa using h
  subst this
  rw [Nat.zero_mul,List.drop_zero,List.flatten_cons]
  exact ⟨by rw [← he,List.take_left],by rw [List.length_append]; omega⟩
 | e :: es,k + 1,ps,hu,h=>by
  have he:=hu e List.mem_cons_self
  obtain ⟨h1,h2⟩:=CC (fun q hq=>hu q (List.mem_cons_of_mem _ hq)) (show es[k]? = some ps by simpa using h)
  have e1:(k + 1) * m = e.length + k * m:=by rw [he,Nat.succ_mul,Nat.add_comm]
  rw [e1,List.flatten_cons,← List.drop_drop,List.drop_left]
  exact ⟨h1,by rw [List.length_append]; omega⟩
theorem D7 {m:Nat}:∀ {es:List (List CP)} {k:Nat} {ps:List CP},(∀ q ∈ es,q.length = m) → ps.length = m → k < es.length → (es.set k ps).flatten = Sk.aN es.flatten (k * m) ps
 | [],k,ps,_,_,h=>by simp at h
 | e :: es,0,ps,hu,hp,h=>by
  have he:=hu e List.mem_cons_self
  rw [Nat.zero_mul,List.set_cons_zero,List.flatten_cons,List.flatten_cons]
  simp only [Sk.aN,List.take_zero,List.nil_append,Nat.zero_add]
  rw [hp,← he,List.drop_left]
 | e :: es,k + 1,ps,hu,hp,h=>by
  have he:=hu e List.mem_cons_self
  have ih:=D7 (fun q hq=>hu q (List.mem_cons_of_mem _ hq)) hp (show k < es.length by simpa using h)
  have e1:(k + 1) * m = e.length + k * m:=by rw [he,Nat.succ_mul,Nat.add_comm]
  rw [e1,List.set_cons_succ,List.flatten_cons,List.flatten_cons,ih]
  have h1:List.take (e.length + k * m) (e ++ es.flatten) = e ++ List.take (k * m) es.flatten:=by
   rw [List.take_append,List.take_of_length_le (by omega)]
   congr 2
   omega
  have h2:List.drop (e.length + k * m + ps.length) (e ++ es.flatten) = List.drop (k * m + ps.length) es.flatten:=by
   rw [List.drop_append,List.drop_eq_nil_of_le (by omega),List.nil_append]
   congr 1
   omega
  simp only [Sk.aN,h1,h2,List.append_assoc]
theorem GO {l q:List CP} {off n o:Nat} (h:o + q.length ≤ n) (hn:off + n ≤ l.length):Sk.aN l off (Sk.aN ((l.drop off).take n) o q) = Sk.aN l (off + o) q:=by
 have hl:(Sk.aN ((l.drop off).take n) o q).length = n:=by simp [Sk.aN]; omega
 simp only [Sk.aN] at hl ⊢
 rw [hl]
 simp only [List.take_take,List.drop_take,List.drop_drop]
 have e1:min o n = o:=by omega
 rw [e1]
 have e2:List.take (off + o) l = List.take off l ++ List.take o (List.drop off l):=by rw [List.take_add]
 rw [e2]
 have e3:List.drop (off + o + q.length) l = List.take (n - (o + q.length)) (List.drop (off + (o + q.length)) l) ++ List.drop (off + n) l:=by
  have:List.drop (off + n) l = List.drop (n - (o + q.length)) (List.drop (off + (o + q.length)) l):=by rw [List.drop_drop]; congr 1; omega
  rw [this,List.take_append_drop,Nat.add_assoc]
 rw [e3]
 simp [List.append_assoc]
theorem AV.at_ {D:Dt} {i:D.σ} (a:AV D i) {w:D.T i} {k:Nat} {z:V D a.d} (h:(a.al w)[k]? = some z):((D.e i w).drop (k * sz D a.d)).take (sz D a.d) = enc D a.d z ∧ k * sz D a.d + sz D a.d ≤ (D.e i w).length:=by
 rw [a.h3]
 exact CC (fun q hq=>by obtain ⟨v,_,rfl⟩:=List.mem_map.1 hq; exact ca) (by rw [List.getElem?_map,h]; rfl)
theorem AV.set_ {D:Dt} {i:D.σ} (a:AV D i) {w:D.T i} {k:Nat} {z:V D a.d} (h:k < (a.al w).length):D.e i (a.ao ((a.al w).set k z)) = Sk.aN (D.e i w) (k * sz D a.d) (enc D a.d z):=by
 rw [a.h3,a.h2 _ (by rw [List.length_set]; exact a.h1 w),List.map_set,a.h3 w]
 exact D7 (fun q hq=>by obtain ⟨v,_,rfl⟩:=List.mem_map.1 hq; exact ca) ca (by rw [List.length_map]; exact h)
section
variable [DecidableEq D.σ]
def Im {R:Type} (go:(d:DT D.σ) → V D d → Nat → Option R):(l:List (DT D.σ)) → HT D l → Nat → Option R
 | [],_,_=>none
 | d :: l,h,o=>if o < sz D d then go d h.1 o else Im go l h.2 (o - sz D d)
def sub (L:Lay D) (d':DT D.σ):Nat → (d:DT D.σ) → V D d → Nat → Option (V D d')
 | 0,_,_,_=>none
 | n + 1,d,v,o=>if h:d = d' then (if o = 0 then some (h ▸ v) else none) else match d,v with
  | .st i,x=>Im (sub L d' n) (L.fs i) (L.un i x) o
  | _,_=>none
def Il (go:(d:DT D.σ) → V D d → Nat → Option (V D d)):(l:List (DT D.σ)) → HT D l → Nat → Option (HT D l)
 | [],_,_=>none
 | d :: l,h,o=>if o < sz D d then (go d h.1 o).bind fun v=>some (v,h.2) else (Il go l h.2 (o - sz D d)).bind fun r=>some (h.1,r)
def oy (L:Lay D) (d':DT D.σ) (v':V D d'):Nat → (d:DT D.σ) → V D d → Nat → Option (V D d)
 | 0,_,_,_=>none
 | n + 1,d,v,o=>if h:d = d' then (if o = 0 then some (h ▸ v') else none) else match d,v with
  | .st i,x=>(Il (oy L d' v' n) (L.fs i) (L.un i x) o).bind fun r=>some (L.pk i r)
  | _,_=>none
def SubOk (d':DT D.σ) (go:(d:DT D.σ) → V D d → Nat → Option (V D d')):Prop:=∀ d v o v',go d v o = some v' → ((enc D d v).drop o).take (sz D d') = enc D d' v' ∧ o + sz D d' ≤ sz D d
theorem GN {d':DT D.σ} {go:(d:DT D.σ) → V D d → Nat → Option (V D d')} (hg:SubOk d' go):∀ (l:List (DT D.σ)) (h:HT D l) (o:Nat) (v':V D d'),Im go l h o = some v' → ((jj l h).drop o).take (sz D d') = enc D d' v' ∧ o + sz D d' ≤ (jj l h).length
 | [],_,_,_,e=>by simp [Im] at e
 | d :: l,h,o,v',e=>by
  unfold Im at e
  have hl:(enc D d h.1).length = sz D d:=ca
  split at e
  ·next ho=>
   obtain ⟨h1,h2⟩:=hg _ _ _ _ e
   refine ⟨?_,by simp [jj,hl]; omega⟩
   rw [← h1,jj,List.drop_append_of_le_length (by omega),List.take_append_of_le_length (by simp [hl]; omega)]
  ·next ho=>
   obtain ⟨h1,h2⟩:=GN hg l h.2 _ v' e
   refine ⟨?_,by simp [jj,hl]; omega⟩
   rw [← h1,jj,List.drop_append,List.drop_eq_nil_of_le (by omega),List.nil_append,hl]
theorem qU (L:Lay D) (d':DT D.σ):∀ n,SubOk d' (sub L d' n)
 | 0=>fun d v o v' e=>by simp [sub] at e
 | n + 1=>fun d v o v' e=>by
  unfold sub at e
  split at e
  ·next h=>
   subst h
   split at e
   ·next ho=>
    subst ho
    cases e
    exact ⟨by rw [List.drop_zero,← ca (v:=v),List.take_length],by omega⟩
   ·cases e
  ·split at e
   ·next i x=>
    obtain ⟨h1,h2⟩:=GN (qU L d' n) _ _ _ _ e
    rw [← L.eu] at h1 h2
    exact ⟨h1,by rw [D.len] at h2; exact h2⟩
   ·cases e
def UpdOk (d':DT D.σ) (v':V D d') (go:(d:DT D.σ) → V D d → Nat → Option (V D d)):Prop:=∀ d v o w,go d v o = some w → Sk.aN (enc D d v) o (enc D d' v') = enc D d w ∧ o + sz D d' ≤ sz D d
theorem GG {d':DT D.σ} {v':V D d'} {go:(d:DT D.σ) → V D d → Nat → Option (V D d)} (hg:UpdOk d' v' go):∀ (l:List (DT D.σ)) (h:HT D l) (o:Nat) (w:HT D l),Il go l h o = some w → Sk.aN (jj l h) o (enc D d' v') = jj l w ∧ o + sz D d' ≤ (jj l h).length
 | [],_,_,_,e=>by simp [Il] at e
 | d :: l,h,o,w,e=>by
  unfold Il at e
  have hl:(enc D d h.1).length = sz D d:=ca
  have hl':(enc D d' v').length = sz D d':=ca
  split at e
  ·next ho=>
   obtain ⟨z,e1,e2⟩:=aJ e
   cases e2
   obtain ⟨h1,h2⟩:=hg _ _ _ _ e1
   refine ⟨?_,by simp [jj,hl]; omega⟩
   simp only [jj]
   rw [← h1]
   simp only [Sk.aN]
   rw [List.take_append_of_le_length (by omega),List.drop_append_of_le_length (by omega)]
   simp
  ·next ho=>
   obtain ⟨z,e1,e2⟩:=aJ e
   cases e2
   obtain ⟨h1,h2⟩:=GG hg l h.2 _ z e1
   refine ⟨?_,by simp [jj,hl]; omega⟩
   simp only [jj]
   rw [← h1]
   simp only [Sk.aN]
   rw [List.take_append,List.take_of_length_le (by omega),List.drop_append,List.drop_eq_nil_of_le (by omega),hl]
   have:o + (enc D d' v').length - sz D d = o - sz D d + (enc D d' v').length:=by omega
   rw [this]
   simp
theorem qT (L:Lay D) (d':DT D.σ) (v':V D d'):∀ n,UpdOk d' v' (oy L d' v' n)
 | 0=>fun d v o w e=>by simp [oy] at e
 | n + 1=>fun d v o w e=>by
  unfold oy at e
  split at e
  ·next h=>
   subst h
   split at e
   ·next ho=>
    subst ho
    cases e
    refine ⟨?_,by omega⟩
    have h1:(enc D d v).length = sz D d:=ca
    have h2:(enc D d v').length = sz D d:=ca
    simp [Sk.aN,h1,h2]
   ·cases e
  ·split at e
   ·next i x=>
    obtain ⟨z,e1,e2⟩:=aJ e
    cases e2
    obtain ⟨h1,h2⟩:=GG (qT L d' v' n) _ _ _ _ e1
    rw [← L.eu] at h1 h2
    refine ⟨?_,by rw [D.len] at h2; exact h2⟩
    simp only [enc]
    rw [L.eu _ (L.pk _ z),L.um]
    exact h1
   ·cases e
end
end Go.Dn
namespace Go.Dn
open Go Go.Sk
set_option linter.unusedVariables false
set_option linter.unusedSimpArgs false
set_option linter.unusedSectionVars false
variable {D:Dt}
inductive T0 (D:Dt) where
 | d (t:DT D.σ) (v:V D t)
 | ep (t:DT D.σ) (v:V D t) (o:Nat)
 | ri (k m:Nat) (i:Int) (o:Nat)
 | p (x:BV)
 | ifc (T:TypeId) (t:DT D.σ) (v:V D t)
 | fn (f:Nat)
 | ap (k off m:Nat) (i:D.σ) (y:Int) (o:Nat)
 | xv (i:D.σ) (v:D.T i)
inductive TS (D:Dt) where
 | n (x:T0 D)
 | u (l:List (T0 D))
 | o (g:Nat × Bool) (x:T0 D)
 | gb (i:Nat)
inductive TO (D:Dt) where
 | box (T:TypeId) (t:DT D.σ) (v:V D t)
 | row (T:TypeId) (t:DT D.σ) (l:List (V D t))
 | x (T:TypeId) (i:D.σ) (k kr:Nat) (fg:Bool) (v:D.T i)
 | ms (t:DT D.σ) (es:List (Str × V D t))
 | mi (k:IntKind) (t:DT D.σ) (es:List (Int × V D t))
 | cp (T:TypeId) (k':Nat)
 | raw (c:OC)
open Classical in
noncomputable def iE (k kr:Nat) (fg:Bool):XC → CP → BV
 | .c,p=>.one p
 | .sp,p=>if p = .bool true then .ptr k 0 else .one (.raw (.pointer none))
 | .r,_=>if fg = true then .one .any else .row kr
noncomputable def kW (k kr:Nat) (fg:Bool):List XC → List CP → List BV
 | x :: l,p :: ps=>iE k kr fg x p :: kW k kr fg l ps
 | _,_=>[]
theorem vz {k kr:Nat} {fg:Bool}:∀ {l:List XC} {ps:List CP} {o:Nat} {x:XC} {p:CP},l[o]? = some x → ps[o]? = some p → (kW k kr fg l ps)[o]? = some (iE k kr fg x p)
 | _ :: _,_ :: _,0,_,_,h1,h2=>by simp at h1 h2; subst h1 h2; rfl
 | _ :: l,_ :: ps,o + 1,_,_,h1,h2=>by
  simp only [kW,List.getElem?_cons_succ] at h1 h2 ⊢
  exact vz h1 h2
 | [],_,_,_,_,h1,_=>by simp at h1
 | _ :: _,[],_,_,_,_,h2=>by simp at h2
theorem GA {k kr:Nat} {fg:Bool}:∀ {l:List XC} {ps:List CP} {o:Nat} {p:CP},l[o]? = some .c → (kW k kr fg l ps).set o (.one p) = kW k kr fg l (ps.set o p)
 | _ :: _,_ :: _,0,_,h1=>by simp at h1; subst h1; rfl
 | _ :: l,_ :: ps,o + 1,_,h1=>by
  simp only [kW,List.getElem?_cons_succ,List.set_cons_succ] at h1 ⊢
  rw [GA h1]
 | [],_,_,_,h1=>by simp at h1
 | _ :: _,[],_,_,_=>by simp [kW]
theorem GC {k kr:Nat}:∀ {l:List XC} {ps:List CP} {o:Nat},l[o]? = some .r → (l.drop (o + 1)).contains .r = false → (l.take o).contains .r = false → (kW k kr false l ps).set o (.one .any) = kW k kr true l ps
 | x :: l,p :: ps,0,h1,h2,_=>by
  simp at h1
  subst h1
  have:∀ {l:List XC} {ps:List CP},l.contains .r = false → kW k kr false l ps = kW k kr true l ps:=by
   intro l
   induction l with
   | nil=>intro ps _; rfl
   | cons x l ih=>
    intro ps h
    simp only [List.contains_cons,Bool.or_eq_false_iff] at h
    cases ps with
    | nil=>rfl
    | cons p ps=>
     simp only [kW]
     rw [ih h.2]
     cases x with
     | r=>simp at h
     | _=>rfl
  simp only [kW,List.set_cons_zero]
  rw [this (by simpa using h2)]
  rfl
 | x :: l,p :: ps,o + 1,h1,h2,h3=>by
  simp only [List.take_succ_cons,List.contains_cons,Bool.or_eq_false_iff] at h3
  simp only [kW,List.set_cons_succ]
  rw [GC (by simpa using h1) (by simpa using h2) h3.2]
  cases x with
  | r=>simp at h3
  | _=>rfl
 | [],_,_,h1,_,_=>by simp at h1
 | _ :: _,[],_,_,_,_=>by simp [kW]
structure GE where
 i:Nat
 p:Option (Nat × Bool)
 b:Bool
def sgn:Bool → Bool → Bool
 | true,b=>b
 | false,b=>!b
def gv:List GE → Nat × Bool → Bool
 | [],_=>false
 | e :: Γ,g=>if e.i = g.1 then (match e.p with
  | none=>sgn g.2 e.b
  | some q=>gv Γ q && sgn g.2 e.b) else gv Γ g
def imp:List GE → Nat × Bool → Nat × Bool → Bool
 | [],_,_=>false
 | e :: Γ,g,g'=>if e.i = g.1 then g == g' || (match e.p with
  | none=>false
  | some q=>q == g' || imp Γ q g') && e.i != g'.1 else e.i != g'.1 && imp Γ g g'
theorem zn:∀ {Γ:List GE} {g g':Nat × Bool},imp Γ g g' = true → gv Γ g = true → gv Γ g' = true
 | [],_,_,h,_=>by simp [imp] at h
 | e :: Γ,g,g',h,hg=>by
  by_cases he:e.i = g.1
  ·simp only [imp,he,if_true] at h
   rw [Bool.or_eq_true] at h
   rcases h with h | h
   ·have:g = g':=by simpa using h
    rw [← this]; exact hg
   ·rw [Bool.and_eq_true] at h
    obtain ⟨h1,h2⟩:=h
    have hne:¬ g.1 = g'.1:=by simpa using h2
    simp only [gv,he,if_true] at hg
    have:gv (e :: Γ) g' = gv Γ g':=by simp only [gv]; rw [if_neg (by omega)]
    rw [this]
    split at h1
    ·cases h1
    ·next q hq=>
     rw [hq] at hg
     simp only [Bool.and_eq_true] at hg
     rw [Bool.or_eq_true] at h1
     rcases h1 with h1 | h1
     ·have:q = g':=by simpa using h1
      rw [← this]; exact hg.1
     ·exact zn h1 hg.1
  ·simp only [imp,he,if_false,Bool.and_eq_true] at h
   have hne:¬ e.i = g'.1:=by simpa using h.1
   simp only [gv,he,if_false] at hg
   simp only [gv,hne,if_false]
   exact zn h.2 hg
def zcell:XC → CP → CP
 | .c,p=>p
 | .sp,_=>.raw (.pointer none)
 | .r,_=>.nil
def Bn:List XC → List CP → List CP
 | x :: l,p :: ps=>zcell x p :: Bn l ps
 | _,_=>[]
def T0.bv:T0 D → BV
 | .d t v=>iC D t v
 | .ep t v o=>.jY ((enc D t v).drop o)
 | .ri k m i o=>.gh k (i.toNat * m + o)
 | .p x=>x
 | .ifc T t v=>.one (.yy T (enc D t v))
 | .fn f=>.one (.raw (.func (.func f) #[] #[]))
 | .ap k off m i y o=>.ptr k (off + y.toNat * m + o)
 | .xv i v=>.agg (Bn (D.xs i) (D.e i v))
def yO:List GE → Nat → Option (Option Bool × Bool)
 | [],_=>none
 | e :: Γ,i=>if e.i = i then some (e.p.map (gv Γ),e.b) else yO Γ i
def TS.sv (Γ:List GE):TS D → SV
 | .n x=>.b x.bv
 | .u l=>.kU (l.map T0.bv)
 | .o g x=>.opt (gv Γ g) x.bv
 | .gb i=>match yO Γ i with
  | some (none,b)=>.b (.one (.bool b))
  | some (some c,b)=>.opt c (.one (.bool b))
  | none=>.opt false (.one .any)
noncomputable def TO.oc:TO D → OC
 | .box T t v=>.box T (enc D t v)
 | .row T t l=>.row T (sz D t) (l.map (enc D t))
 | .x T i k kr fg v=>.ba T (kW k kr fg (D.xs i) (D.e i v))
 | .ms t es=>.mp (vo CP.str (es.map fun p=>(p.1,iC D t p.2)))
 | .mi k t es=>.mp (vo (CP.int k) (es.map fun p=>(p.1,iC D t p.2)))
 | .cp T k'=>.ba T [.ptr k' 0]
 | .raw c=>c
structure bE (D:Dt) where
 sl:List (Nat × TS D)
 own:List (Nat × TO D)
 Γ:List GE
def od (Γ:List GE) (l:List (Nat × TS D)):List (Nat × SV):=l.map fun p=>(p.1,p.2.sv Γ)
noncomputable def bq (l:List (Nat × TO D)):List (Nat × OC):=l.map fun p=>(p.1,p.2.oc)
noncomputable def bE.st (s:bE D):St:=⟨od s.Γ s.sl,bq s.own⟩
theorem yZ {Γ:List GE}:∀ {l:List (Nat × TS D)} {t:Nat},lk (od Γ l) t = (lk l t).map (·.sv Γ)
 | [],t=>rfl
 | (j,x) :: l,t=>by
  simp only [od,List.map_cons,lk]
  split
  ·rfl
  ·exact yZ (l:=l)
theorem oh:∀ {l:List (Nat × TO D)} {t:Nat},lk (bq l) t = (lk l t).map (·.oc)
 | [],t=>rfl
 | (j,x) :: l,t=>by
  simp only [bq,List.map_cons,lk]
  split
  ·rfl
  ·exact oh (l:=l)
theorem z6 {Γ:List GE} {k:Nat}:∀ {l:List (Nat × TS D)},del k (od Γ l) = od Γ (del k l)
 | []=>rfl
 | (j,x) :: l=>by
  simp only [od,List.map_cons,del]
  split
  ·exact z6 (l:=l)
  ·exact congrArg _ (z6 (l:=l))
theorem dR {Γ:List GE} {l:List (Nat × TS D)} {k:Nat} {y:SV}:(k,y) ∈ od Γ l ↔ ∃ x,(k,x) ∈ l ∧ y = x.sv Γ:=by
 simp only [od,List.mem_map]
 constructor
 ·rintro ⟨⟨j,x⟩,hm,e⟩; cases e; exact ⟨x,hm,rfl⟩
 ·rintro ⟨x,hm,rfl⟩; exact ⟨(k,x),hm,rfl⟩
def cstT:Value → Option (T0 D)
 | .int k n=>if k.min ≤ n ∧ n ≤ k.max then some (.d (.int k) n) else none
 | .bool b=>some (.d .bool b)
 | .string s=>if s.data.toList.length ≤ maxLen then some (.d .str s.data.toList) else none
 | .func (.func f) ⟨[]⟩ ⟨[]⟩=>some (.fn f)
 | .nilFunc=>some (.p (.one (.raw .nilFunc)))
 | _=>none
def Iw:List GE → Nat → Option (Option (Nat × Bool) × Bool)
 | [],_=>none
 | e :: Γ,i=>if e.i = i then (match e.p with
  | none=>some (none,e.b)
  | some q=>if e.i = q.1 then none else some (some q,e.b)) else (Iw Γ i).bind fun r=>match r.1 with
  | none=>some r
  | some q=>if e.i = q.1 then none else some r
theorem Cz {e:GE} {Γ:List GE} {g:Nat × Bool} (h:e.i ≠ g.1):gv (e :: Γ) g = gv Γ g:=by simp only [gv]; rw [if_neg h]
theorem tv:∀ {Γ:List GE} {i:Nat} {r:Option (Nat × Bool) × Bool},Iw Γ i = some r → yO Γ i = some (r.1.map (gv Γ),r.2)
 | [],i,r,h=>by cases h
 | e :: Γ,i,r,h=>by
  unfold Iw at h
  unfold yO
  split at h
  ·next he=>
   rw [if_pos he]
   split at h
   ·next hp=>cases h; rw [hp]; rfl
   ·next q hp=>
    split at h
    ·cases h
    ·next hq=>cases h; rw [hp]; simp only [Option.map_some]; rw [Cz hq]
  ·next he=>
   rw [if_neg he]
   cases hr:Iw Γ i with
   | none=>rw [hr] at h; cases h
   | some r'=>
    rw [hr] at h
    have ih:=tv hr
    simp only [Option.bind_some] at h
    split at h
    ·next hp=>cases h; rw [ih,hp]; rfl
    ·next q hp=>
     split at h
     ·cases h
     ·next hq=>cases h; rw [ih,hp]; simp only [Option.map_some]; rw [Cz hq]
def slot (Γ:List GE) (g:Option (Nat × Bool)):TS D → Option (T0 D)
 | .n x=>some x
 | .o g' x=>match g with
  | some g=>if imp Γ g g' = true then some x else none
  | none=>none
 | .gb i=>match Iw Γ i with
  | some (none,b)=>some (.d .bool b)
  | some (some q,b)=>(match g with
   | some g=>if imp Γ g q = true then some (.d .bool b) else none
   | none=>none)
  | none=>none
 | _=>none
def bE.ev (s:bE D) (g:Option (Nat × Bool)):Operand → Option (T0 D)
 | .tmp t=>(lk s.sl t).bind (slot s.Γ g)
 | .const v=>cstT v
 | .func f=>some (.fn f)
 | .global _=>none
theorem CF {v:Value} {x:T0 D} (h:cstT v = some x):∀ s:St,s.ev (.const v) = some (.b x.bv):=by
 intro s
 unfold cstT at h
 split at h
 ·split at h
  ·next h1=>cases h; simp [St.ev,F',h1,T0.bv,iC]
  ·cases h
 ·cases h; simp [St.ev,F',T0.bv,iC]
 ·split at h
  ·next h1=>cases h; simp only [St.ev,F',h1,if_true,T0.bv,iC]; rfl
  ·cases h
 ·cases h; simp [St.ev,F',T0.bv]
 ·cases h; simp [St.ev,F',T0.bv]
 ·cases h
def opn1 (Γ:List GE) (g:Option (Nat × Bool)) (x:TS D):SV:=match slot Γ g x with
 | some y=>.b y.bv
 | none=>x.sv Γ
theorem J3 {Γ:List GE} {g:Option (Nat × Bool)} {x:TS D} (hg:∀ q,g = some q → gv Γ q = true) {h:PH} {ρ:RM} {v:Value}:(opn1 Γ g x).rel h ρ v ↔ (x.sv Γ).rel h ρ v:=by
 unfold opn1
 split
 ·next y hy=>
  unfold slot at hy
  split at hy
  ·cases hy; exact Iff.rfl
  ·split at hy
   ·next g' z q=>
    split at hy
    ·next hi=>
     cases hy
     have hc:=zn hi (hg _ rfl)
     simp only [TS.sv,hc]
     exact ⟨fun h=>⟨fun _=>h,fun e=>by cases e⟩,fun h=>h.1 rfl⟩
    ·cases hy
   ·cases hy
  ·split at hy
   ·next b hb=>
    cases hy
    simp only [TS.sv,tv hb]
    exact Iff.rfl
   ·next q b hb=>
    split at hy
    ·next q'=>
     split at hy
     ·next hi=>
      cases hy
      have hc:=zn hi (hg _ rfl)
      simp only [TS.sv,tv hb,Option.map_some,hc]
      exact ⟨fun h=>⟨fun _=>h,fun e=>by cases e⟩,fun h=>h.1 rfl⟩
     ·cases hy
    ·cases hy
   ·cases hy
  ·cases hy
 ·exact Iff.rfl
theorem GX {α β:Type} {f:α → β}:∀ {l:List (Nat × α)} {t:Nat},lk (l.map fun p=>(p.1,f p.2)) t = (lk l t).map f
 | [],t=>rfl
 | (j,x) :: l,t=>by
  simp only [List.map_cons,lk]
  split
  ·rfl
  ·exact GX (l:=l)
end Go.Dn
namespace Go.Dn
open Go Go.Sk
set_option linter.unusedVariables false
set_option linter.unusedSimpArgs false
set_option linter.unusedSectionVars false
def yA (P:Program) (D:Dt) (t:TypeId):DT D.σ → Prop
 | .int k=>P.underlying t = some (.int k) ∧ cS P t
 | .bool=>P.underlying t = some .bool ∧ cS P t
 | .str=>P.underlying t = some .string ∧ cS P t
 | .sl d=>cS P t ∧ ∃ e bytes zs,kV P t e (sz D d) bytes zs
 | .st i=>gg P t (D.n i)
 | .u=>cS P t
def TyZ (P:Program) (t:TypeId) (zs:List CP):Prop:=∃ i z,P.info? t = some i ∧ i.zero = some z ∧ ∀ h,aA h zs z.cells.toList
structure tL (P:Program) (t:TypeId) (size:Nat) (zs:List CP):Prop where
 info:∃ it z m e ie,P.info? t = some it ∧ it.zero = some z ∧ (∀ h,aA h zs z.cells.toList) ∧ P.underlying t = some (.array m e) ∧ P.info? e = some ie ∧ ie.size = size
theorem EB {P:Program} {TB:aF} {E:Env TB} {n:Sh} {s:St} {dst:Option Nat} {t ty:TypeId} {pos:String} {after:Array Edge} {g:Option (Nat × Bool)} {size:Nat} {zs qs:List CP} {parts:Array (Nat × Operand)} {cps:List (Nat × List CP)} (ht:tL P t size zs) (hp:eE s parts.toList = some cps) (hf:ir (fun i=>some (i * size,size)) zs cps = some qs) :
  aR P E n ⟨dst,.build t parts,ty,pos,after,g⟩ s (s.put n dst (.b (.agg qs))) :=
 aR.val (o:=⟨dst,.build t parts,ty,pos,after,g⟩) fun ac w h ρ hw hs=>by
  obtain ⟨it,z,m,e,ie,h1,h2,h3,h4,h5,h6⟩:=ht.info
  obtain ⟨cs,hc1,hc2⟩:=oP hs (fun i=>some (i * size,size)) parts.toList cps zs qs z.cells hp hf (h3 h)
  refine ⟨.agg cs,?_,cs,rfl,hc2⟩
  have hb:P.built t (parts.map fun (i,x)=>(i,ac.eval x)).toList = some cs:=by
   simp only [Program.built,h1,h4,h2,h5,h6]
   rw [← hc1]
   simp
  have:=run_build (P:=P) w t _ cs hb
  simp only [execOp]
  simp [this]
theorem BT {size:Nat} {pl:List (Nat × Nat)} (hpl:∀ j q,pl[j]? = some q → q = (j * size,size)):∀ {cps:List (Nat × List CP)} {zs qs:List CP},ir (pl.toArray[·]?) zs cps = some qs → ir (fun i=>some (i * size,size)) zs cps = some qs
 | [],zs,qs,h=>h
 | (j,q) :: r,zs,qs,h=>by
  simp only [ir,List.getElem?_toArray] at h ⊢
  obtain ⟨p,hp,h1⟩:=aJ h
  have:=hpl j p hp
  subst this
  simp only [Option.bind_some]
  split at h1
  ·next hc=>
   rw [if_pos hc]
   exact BT hpl (by simpa only [List.getElem?_toArray] using h1)
  ·cases h1
structure XZ (D:Dt) where
 i:D.σ
 off:Nat
 Te:TypeId
 d:DT D.σ
 pl:List (Nat × Nat)
structure HA (P:Program) (D:Dt) (t:TypeId) (q:XZ D):Prop where
 ag:gg P t (D.n q.i)
 z:TyZ P t (Bn (D.xs q.i) (D.e q.i (D.z q.i)))
 b:qC P t q.pl (Bn (D.xs q.i) (D.e q.i (D.z q.i)))
 s:0 < sz D q.d
 l:(D.xs q.i).length = D.n q.i
 r:∀ v,D.xw q.i v = false → (Bn (D.xs q.i) (D.e q.i v))[q.off]? = some .nil ∧ ∀ k kr,((Bn (D.xs q.i) (D.e q.i v)).map BV.one).set q.off (.row kr) = kW k kr false (D.xs q.i) (D.e q.i v)
structure Tb (P:Program) (D:Dt) (TB:aF) where
 ty:TypeId → Option (DT D.σ)
 tok:∀ t d,ty t = some d → yA P D t d
 fo:TypeId → Nat → Option (Nat × TypeId)
 fok:∀ t j o ft,fo t j = some (o,ft) → eF P t j o ft
 eq:TypeId → (i:D.σ) → Option ((a b:D.T i) → Bool)
 eok:∀ t i f,eq t i = some f → ∀ a b,iF P t (D.e i a) (D.e i b) (f a b)
 el:TypeId → DT D.σ → Option (TypeId × Nat)
 elo:∀ t d e b,el t d = some (e,b) → ∃ zs,kV P t e (sz D d) b zs ∧ aQ ZC zs (enc D d (zv D d))
 zt:TypeId → Option (DT D.σ)
 zok:∀ t d,zt t = some d → TyZ P t (enc D d (zv D d))
 bl:TypeId → Option (D.σ × List (Nat × Nat))
 bok:∀ t i pl,bl t = some (i,pl) → qC P t pl (D.e i (D.z i)) ∨ ∃ size,tL P t size (D.e i (D.z i)) ∧ ∀ j q,pl[j]? = some q → q = (j * size,size)
 ta:TypeId → Option (DT D.σ × Nat)
 tao:∀ t d n,ta t = some (d,n) → ∃ e,k7 P t e n (sz D d) ∧ yA P D e d
 mt:TypeId → Option (Option IntKind × DT D.σ)
 mto:∀ t kk d,mt t = some (kk,d) → ∃ kt et,P.underlying kt = some (match kk with | none=>.string | some k=>.int k) ∧ sC P t kt et (iC D d (zv D d))
 gs:Nat → Option ((d:DT D.σ) × List (V D d))
 gso:∀ gb d l,gs gb = some ⟨d,l⟩ → ∃ cs,(gb,cs) ∈ TB ∧ (∀ h,aA h (l.map (enc D d)).flatten cs) ∧ l.length ≤ maxLen
 xz:TypeId → Option (XZ D)
 xzo:∀ t q,xz t = some q → HA P D t q
 by_:TypeId → Bool
 byo:∀ t,by_ t = true → zx P t
 up:TypeId → Option TypeId
 upo:∀ t e,up t = some e → P.underlying t = some (.pointer e) ∧ P.cellsOf e = 1
 cl:FuncId → Option (TypeId × DT D.σ)
 cD:∀ f q,cl f = some q → dw P f ∧ ∀ l r,bV ([]:List (V D q.2)) l = some r → aG P TB f [] [iC D (.sl q.2) l] (Is [(0,.row q.1 (sz D q.2) (r.map (enc D q.2)))] (.b (.row 0)))
 mx:P.follows .mixedOrders = true
 cc:TypeId → Bool
 cok:∀ t,cc t = true → P.concrete t = true
def AS {α:Type} [Inhabited α]:Option Bool → Option α → Option α
 | none,m=>m
 | some c,m=>bo c m
theorem fb {α:Type} [Inhabited α] {c:Option Bool} {m:Option α} {x:α} (h:AS c m = some x) (hc:c ≠ some false):m = some x:=by
 cases c with
 | none=>exact h
 | some c=>cases c with
  | true=>exact h
  | false=>exact absurd rfl hc
section
variable {P:Program} {D:Dt} [DecidableEq D.σ] {TB:aF} (B0:Tb P D TB) (L:Lay D) {R:Type}
def gl (d:DT D.σ) (x:T0 D):Option (V D d):=match x with
 | .d t v=>if h:t = d then some (h ▸ v) else none
 | _=>none
theorem df {d:DT D.σ} {x:T0 D} {v:V D d} (h:gl d x = some v):x = .d d v:=by
 unfold gl at h
 split at h
 ·split at h
  ·next e=>subst e; cases h; rfl
  ·cases h
 ·cases h
def binI (c:Option Bool) (o:BinOp) (k:IntKind) (a b:Int) (K:T0 D → Option R):Option R:=match o with
 | .add=>K (.d (.int k) (k.wrap (a + b)))
 | .sub=>K (.d (.int k) (k.wrap (a - b)))
 | .mul=>K (.d (.int k) (k.wrap (a * b)))
 | .quo=>(AS c (oF k a b)).bind fun z=>K (.d (.int k) z)
 | .rem=>(AS c (nD a b)).bind fun z=>K (.d (.int k) z)
 | .lss=>K (.d .bool (decide (a < b)))
 | .leq=>K (.d .bool (decide (a ≤ b)))
 | .gtr=>K (.d .bool (decide (b < a)))
 | .geq=>K (.d .bool (decide (b ≤ a)))
 | .eql=>K (.d .bool (decide (a = b)))
 | .neq=>K (.d .bool (decide (a ≠ b)))
 | .and=>K (.d (.int k) (iand k a b))
 | .or=>K (.d (.int k) (ior k a b))
 | .xor=>K (.d (.int k) (ixor k a b))
 | .andNot=>K (.d (.int k) (Gm k a b))
 | _=>none
def binS (c:Option Bool) (o:BinOp) (a b:Str) (K:T0 D → Option R):Option R:=match o with
 | .add=>(AS c (bV a b)).bind fun z=>K (.d .str z)
 | .eql=>K (.d .bool (decide (a = b)))
 | .neq=>K (.d .bool (decide (a ≠ b)))
 | .lss=>K (.d .bool (Op.bytesLess a b))
 | _=>none
def bin (c:Option Bool) (o:BinOp) (t:TypeId) (x y:T0 D) (K:T0 D → Option R):Option R:=match x with
 | .d (.int k) a=>(match o with
  | .shl=>(match y with
   | .d (.int _) b=>(AS c (Di k a b)).bind fun z=>K (.d (.int k) z)
   | _=>none)
  | .shr=>(match y with
   | .d (.int _) b=>(AS c (zb k a b)).bind fun z=>K (.d (.int k) z)
   | _=>none)
  | o=>(gl (.int k) y).bind fun b=>binI c o k a b K)
 | .d .str a=>(gl .str y).bind fun b=>binS c o a b K
 | .d .bool a=>(gl .bool y).bind fun b=>(match B0.ty t with
  | some .bool=>(match o with
   | .eql=>K (.d .bool (a == b))
   | .neq=>K (.d .bool (a != b))
   | _=>none)
  | _=>none)
 | .d (.st i) a=>(gl (.st i) y).bind fun b=>(B0.eq t i).bind fun f=>(match o with
  | .eql=>K (.d .bool (f a b))
  | .neq=>K (.d .bool (!(f a b)))
  | _=>none)
 | _=>none
end
section
variable {P:Program} {D:Dt} [DecidableEq D.σ] {TB:aF} {B0:Tb P D TB} {L:Lay D} {R:Type} {E:Env TB} {n:Sh} {s:St} {dst:Option Nat} {t ty yt:TypeId} {pos:String} {after:Array Edge} {g:Option (Nat × Bool)} {x y:Operand} {c:Option Bool} {K:T0 D → Option R} {r:R}
theorem binI_ok {o:BinOp} {k:IntKind} {a b:Int} (h:binI c o k a b K = some r):∃ z,K z = some r ∧ ∀ {s:St},(c ≠ some false → s.ev x = some (.b (.one (.int k a))) → s.ev y = some (.b (.one (.int k b))) → aR P E n ⟨dst,.binOp o t x y yt,ty,pos,after,g⟩ s (s.put n dst (.b z.bv))):=by
 unfold binI at h
 split at h
 ·exact ⟨_,h,fun {s} _ hx hy=>ef hx hy⟩
 ·exact ⟨_,h,fun {s} _ hx hy=>wW hx hy⟩
 ·exact ⟨_,h,fun {s} _ hx hy=>I9 hx hy⟩
 ·obtain ⟨z,e,h⟩:=aJ h; exact ⟨_,h,fun {s} hc hx hy=>op_quo2 (fb e hc) hx hy⟩
 ·obtain ⟨z,e,h⟩:=aJ h; exact ⟨_,h,fun {s} hc hx hy=>op_rem2 (fb e hc) hx hy⟩
 ·exact ⟨_,h,fun {s} _ hx hy=>k8 hx hy⟩
 ·exact ⟨_,h,fun {s} _ hx hy=>op_leq hx hy⟩
 ·exact ⟨_,h,fun {s} _ hx hy=>oJ hx hy⟩
 ·exact ⟨_,h,fun {s} _ hx hy=>I' hx hy⟩
 ·exact ⟨_,h,fun {s} _ hx hy=>nF hx hy⟩
 ·exact ⟨_,h,fun {s} _ hx hy=>wX hx hy⟩
 ·exact ⟨_,h,fun {s} _ hx hy=>op_and hx hy⟩
 ·exact ⟨_,h,fun {s} _ hx hy=>op_or hx hy⟩
 ·exact ⟨_,h,fun {s} _ hx hy=>op_xor hx hy⟩
 ·exact ⟨_,h,fun {s} _ hx hy=>op_andn hx hy⟩
 ·cases h
theorem binS_ok {o:BinOp} {a b:Str} (h:binS c o a b K = some r):∃ z,K z = some r ∧ ∀ {s:St},(c ≠ some false → s.ev x = some (.b (.one (.str a))) → s.ev y = some (.b (.one (.str b))) → aR P E n ⟨dst,.binOp o t x y yt,ty,pos,after,g⟩ s (s.put n dst (.b z.bv))):=by
 unfold binS at h
 split at h
 ·obtain ⟨z,e,h⟩:=aJ h; exact ⟨_,h,fun {s} hc hx hy=>yd (fb e hc) hx hy⟩
 ·exact ⟨_,h,fun {s} _ hx hy=>u5 hx hy⟩
 ·exact ⟨_,h,fun {s} _ hx hy=>uZ hx hy⟩
 ·exact ⟨_,h,fun {s} _ hx hy=>FJ hx hy⟩
 ·cases h
theorem bin_ok {o:BinOp} {u v:T0 D} (h:bin B0 c o t u v K = some r):∃ z,K z = some r ∧ ∀ {s:St},(c ≠ some false → s.ev x = some (.b u.bv) → s.ev y = some (.b v.bv) → aR P E n ⟨dst,.binOp o t x y yt,ty,pos,after,g⟩ s (s.put n dst (.b z.bv))):=by
 unfold bin at h
 split at h
 ·split at h
  ·split at h
   ·obtain ⟨z,e,h⟩:=aJ h; exact ⟨_,h,fun {s} hc hx hy=>op_shl (fb e hc) hx hy⟩
   ·cases h
  ·split at h
   ·obtain ⟨z,e,h⟩:=aJ h; exact ⟨_,h,fun {s} hc hx hy=>op_shr3 (fb e hc) hx hy⟩
   ·cases h
  ·obtain ⟨b,e,h1⟩:=aJ h
   cases df e
   exact binI_ok h1
 ·obtain ⟨b,e,h1⟩:=aJ h
  cases df e
  exact binS_ok h1
 ·obtain ⟨b,e,h1⟩:=aJ h
  cases df e
  clear h e
  split at h1
  ·next ht=>
   split at h1
   ·exact ⟨_,h1,fun {s} _ hx hy=>Ez (B0.tok _ _ ht).1 hx hy⟩
   ·exact ⟨_,h1,fun {s} _ hx hy=>yb (B0.tok _ _ ht).1 hx hy⟩
   ·cases h1
  ·cases h1
 ·obtain ⟨b,e,h1⟩:=aJ h
  cases df e
  obtain ⟨f,e2,h2⟩:=aJ h1
  clear h e h1
  split at h2
  ·exact ⟨_,h2,fun {s} _ hx hy=>Al (B0.eok _ _ _ e2 _ _) hx hy⟩
  ·exact ⟨_,h2,fun {s} _ hx hy=>Ak (B0.eok _ _ _ e2 _ _) hx hy rfl⟩
  ·cases h2
 ·cases h
end
end Go.Dn
namespace Go.Dn
open Go Go.Sk
set_option linter.unusedVariables false
set_option linter.unusedSimpArgs false
set_option linter.unusedSectionVars false
section
variable {P:Program} {D:Dt} [DecidableEq D.σ] {TB:aF} (B0:Tb P D TB) (L:Lay D) {R:Type}
def pz (d':DT D.σ) (d:DT D.σ) (v:V D d) (o:Nat):Option (V D d'):=sub L d' 8 d v o
def lenv (B0:Tb P D TB) (own:List (Nat × TO D)) (t:TypeId) (x:T0 D) (K:T0 D → Option R):Option R:=match x with
 | .d .str a=>(match B0.ty t with
  | some .str=>K (.d (.int .i64) (a.length:Int))
  | _=>none)
 | .d (.sl d) l=>(match B0.ty t with
  | some (.sl _)=>K (.d (.int .i64) (l.length:Int))
  | _=>none)
 | .p (.row k)=>(match B0.ty t with
  | some (.sl _)=>(lk own k).bind fun c=>(match c with
   | .row T d l=>K (.d (.int .i64) (l.length:Int))
   | _=>none)
  | _=>none)
 | _=>none
def Hz (own:List (Nat × TO D)) (t:TypeId) (i:D.σ) (a:AV D i):Bool:=match B0.ta t with
 | some (d,n)=>decide (d = a.d ∧ n = a.n)
 | none=>false
def idxv (c:Option Bool) (own:List (Nat × TO D)) (t:TypeId) (x y:T0 D) (K:T0 D → Option R):Option R:=match x,y with
 | .p (.ptr k off),.d (.int _) y=>(match B0.ty t with
  | some (.st i)=>(L.ar i).bind fun a=>if Hz B0 own t i a = true then (match lk own k with
   | some (.box _ d0 v)=>(pz L (.st i) d0 v off).bind fun w=>(AS c (aH (a.al w) y)).bind fun _=>K (.ap k off (sz D a.d) i y 0)
   | _=>none) else none
  | _=>none)
 | .p (.row k),.d (.int _) y=>(match lk own k with
  | some (.row T d l)=>(match B0.ty t with
   | some d2=>if d2 = .sl d then (AS c (aH l y)).bind fun _=>K (.ri k (sz D d) y 0) else none
   | _=>none)
  | _=>none)
 | .ep d0 v o,.d (.int _) y=>(match B0.ty t with
  | some (.st i)=>(L.ar i).bind fun a=>if Hz B0 own t i a = true then (pz L (.st i) d0 v o).bind fun w=>(AS c (aH (a.al w) y)).bind fun z=>K (.ep a.d z 0) else none
  | _=>none)
 | .d (.sl d) l,.d (.int _) i=>(match B0.ty t with
  | some d2=>if d2 = .sl d then (AS c (aH l i)).bind fun z=>K (.ep d z 0) else none
  | _=>none)
 | _,_=>none
def idsv (c:Option Bool) (t:TypeId) (x y:T0 D) (K:T0 D → Option R):Option R:=match x,y with
 | .d (.st i) v,.d (.int _) y=>(L.ar i).bind fun a=>if Hz B0 [] t i a = true then (AS c (aH (a.al v) y)).bind fun z=>K (.d a.d z) else none
 | .d .str a,.d (.int _) i=>(match B0.ty t with
  | some .str=>(AS c (aH a i)).bind fun z=>K (.d (.int .u8) (z.toNat:Int))
  | _=>none)
 | _,_=>none
def fav (t:TypeId) (j:Nat) (x:T0 D) (K:T0 D → Option R):Option R:=(B0.fo t j).bind fun q=>match x with
 | .ep d v o=>K (.ep d v (o + q.1))
 | .ri k m i o=>K (.ri k m i (o + q.1))
 | .p (.ptr k o)=>K (.p (.ptr k (o + q.1)))
 | .ap k off m i y o=>K (.ap k off m i y (o + q.1))
 | _=>none
def ldv (c:Option Bool) (own:List (Nat × TO D)) (t:TypeId) (x:T0 D) (K:T0 D → Option R):Option R:=(B0.ty t).bind fun d=>match x with
 | .ri k m y o=>(match lk own k with
  | some (.row _ d0 l)=>if m = sz D d0 then (AS c (aH l y)).bind fun z=>(pz L d d0 z o).bind fun u=>K (.d d u) else none
  | _=>none)
 | .ap k off m i y o=>(L.ar i).bind fun a=>if m = sz D a.d then (match lk own k with
  | some (.box _ d0 v)=>(pz L (.st i) d0 v off).bind fun w=>(AS c (aH (a.al w) y)).bind fun z=>(pz L d a.d z o).bind fun u=>K (.d d u)
  | _=>none) else none
 | .ep d0 v o=>(pz L d d0 v o).bind fun z=>K (.d d z)
 | .p (.ptr k o)=>(lk own k).bind fun c=>match c with
  | .box T d0 v=>(pz L d d0 v o).bind fun z=>K (.d d z)
  | .x T i k' kr fg v=>if (k' = k ∧ agg d = false) ∧ o < D.n i then (match (D.xs i)[o]? with
   | some .c=>(pz L d (.st i) v o).bind fun z=>K (.d d z)
   | some .r=>if fg = false then K (.p (.row kr)) else none
   | _=>none) else none
  | .cp T k'=>if o = 0 ∧ agg d = false then K (.p (.ptr k' 0)) else none
  | _=>none
 | _=>none
def fv (t:TypeId) (j:Nat) (x:T0 D) (K:T0 D → Option R):Option R:=(B0.fo t j).bind fun q=>(B0.ty q.2).bind fun d=>match x with
 | .d (.st i) v=>(pz L d (.st i) v q.1).bind fun z=>K (.d d z)
 | _=>none
def cnv (a b:TypeId) (x:T0 D) (K:T0 D → Option R):Option R:=match x with
 | .d (.int k0) v=>(match B0.ty a,B0.ty b with
  | some (.int k1),some (.int k)=>if k1 = k0 then K (.d (.int k) (k.wrap v)) else none
  | _,_=>none)
 | _=>none
def slv (B0:Tb P D TB) (L:Lay D) (c:Option Bool) (ev:Operand → Option (T0 D)) (t:TypeId) (x:T0 D) (lo hi:Option Operand) (K:T0 D → Option R):Option R:=match x with
 | .d .str a=>(match B0.ty t with
  | some .str=>(match lo,hi with
   | some lo,some hi=>(ev lo).bind fun u=>(ev hi).bind fun v=>(match u,v with
    | .d (.int _) i,.d (.int _) j=>(AS c (Dh a i j)).bind fun z=>K (.d .str z)
    | _,_=>none)
   | some lo,none=>(ev lo).bind fun u=>(match u with
    | .d (.int _) i=>(AS c (rR a i)).bind fun z=>K (.d .str z)
    | _=>none)
   | none,some hi=>(ev hi).bind fun u=>(match u with
    | .d (.int _) i=>(AS c (sA a i)).bind fun z=>K (.d .str z)
    | _=>none)
   | none,none=>none)
  | _=>none)
 | .d (.sl d) l=>(match B0.ty t with
  | some d2=>if d2 = .sl d then (match lo,hi with
   | some lo,some hi=>(ev lo).bind fun u=>(ev hi).bind fun v=>(match u,v with
    | .d (.int _) i,.d (.int _) j=>(AS c (Dh l i j)).bind fun z=>K (.d (.sl d) z)
    | _,_=>none)
   | some lo,none=>(ev lo).bind fun u=>(match u with
    | .d (.int _) i=>(AS c (rR l i)).bind fun z=>K (.d (.sl d) z)
    | _=>none)
   | none,some hi=>(ev hi).bind fun u=>(match u with
    | .d (.int _) i=>(AS c (sA l i)).bind fun z=>K (.d (.sl d) z)
    | _=>none)
   | none,none=>none) else none
  | _=>none)
 | .ep d0 v o=>(match lo,hi with
  | none,none=>(match B0.ty t with
   | some (.st i)=>(L.ar i).bind fun a=>if (Hz B0 [] t i a = true ∧ 0 < sz D a.d) ∧ a.n ≤ 16777216 then (pz L (.st i) d0 v o).bind fun w=>K (.d (.sl a.d) (a.al w)) else none
   | _=>none)
  | _,_=>none)
 | _=>none
def rdH (go:(d:DT D.σ) → List Value → Option (V D d × List Value)):(l:List (DT D.σ)) → List Value → Option (HT D l × List Value)
 | [],vs=>some ((),vs)
 | d :: l,vs=>(go d vs).bind fun a=>(rdH go l a.2).bind fun b=>some ((a.1,b.1),b.2)
def rdc:Nat → (d:DT D.σ) → List Value → Option (V D d × List Value)
 | 0,_,_=>none
 | n + 1,d,l=>match d,l with
  | .int k,.int k' m :: l=>if k' = k ∧ k.min ≤ m ∧ m ≤ k.max then some (m,l) else none
  | .bool,.bool b :: l=>some (b,l)
  | .str,.string s :: l=>if s.data.toList.length ≤ maxLen then some (s.data.toList,l) else none
  | .sl d,.slice none 0 0 :: l=>if 0 < sz D d then some (([]:List (V D d)),l) else none
  | .st i,l=>(rdH (rdc n) (L.fs i) l).bind fun r=>some (L.pk i r.1,r.2)
  | _,_=>none
def cvT (d:DT D.σ) (v:Value):Option (V D d):=match agg d,v with
 | true,.agg cs=>(rdc L 8 d cs.toList).bind fun r=>match r.2 with
  | []=>some r.1
  | _=>none
 | false,v=>(rdc L 8 d [v]).bind fun r=>match r.2 with
  | []=>some r.1
  | _=>none
 | _,_=>none
def asg (ev:Operand → Option (T0 D)) (ty:TypeId) (x:Operand) (K:T0 D → Option R):Option R:=match x with
 | .const v=>(match cstT v with
  | some a=>K a
  | none=>(B0.ty ty).bind fun d=>(cvT L d v).bind fun z=>K (.d d z))
 | x=>(ev x).bind K
def bldv (ev:Operand → Option (T0 D)) (i:D.σ) (pl:List (Nat × Nat)):List (Nat × Operand) → D.T i → Option (D.T i)
 | [],v=>some v
 | p :: l,v=>(pl[p.1]?).bind fun q=>((L.fs i)[p.1]?).bind fun d=>if q.2 = sz D d then (ev p.2).bind fun a=>(gl d a).bind fun u=>(oy L d u 8 (.st i) v q.1).bind fun w=>bldv ev i pl l w else none
def elv (ev:Operand → Option (T0 D)) (d:DT D.σ):Nat → List (Nat × Operand) → Option (List (V D d))
 | _,[]=>some []
 | j,p :: l=>if p.1 = j then (ev p.2).bind fun a=>(gl d a).bind fun v=>(elv ev d (j + 1) l).bind fun r=>some (v :: r) else none
def Iz (ev:Operand → Option (T0 D)):List Operand → Option (List CV)
 | []=>some []
 | x :: l=>(ev x).bind fun a=>match a with
  | .p (.ptr k o)=>(Iz ev l).bind fun r=>some (.ptr k o :: r)
  | .p (.row k)=>(Iz ev l).bind fun r=>some (.row k :: r)
  | _=>none
def mkf (ev:Operand → Option (T0 D)) (f:FuncId) (xs ys:List Operand) (K:T0 D → Option R):Option R:=match xs,ys with
 | [],[]=>K (.fn f)
 | xs,ys=>(Iz ev xs).bind fun a=>(Iz ev ys).bind fun b=>K (.p (.cD f a b))
def mgt (own:List (Nat × TO D)) (t:TypeId) (x y:T0 D) (K:(d:DT D.σ) → Option (V D d) → Option R):Option R:=match x with
 | .p (.row k)=>(match lk own k with
  | some (.ms d es)=>(match B0.mt t with
   | some (none,d')=>if d' = d then (gl .str y).bind fun s=>K d (dY es s) else none
   | _=>none)
  | some (.mi ik d es)=>(match B0.mt t with
   | some (some ik',d')=>if d' = d ∧ ik' = ik then (gl (.int ik) y).bind fun s=>K d (dY es s) else none
   | _=>none)
  | _=>none)
 | _=>none
def opv (c:Option Bool) (ev:Operand → Option (T0 D)) (own:List (Nat × TO D)) (ty:TypeId) (o:Op) (K:T0 D → Option R):Option R:=match o with
 | .move x=>(ev x).bind K
 | .assign x=>asg B0 L ev ty x K
 | .binOp o t x y _=>(ev x).bind fun a=>(ev y).bind fun b=>bin B0 c o t a b K
 | .unOp .not _ x=>(ev x).bind fun a=>(gl .bool a).bind fun b=>K (.d .bool (!b))
 | .unOp .neg _ x=>(ev x).bind fun a=>(match a with
  | .d (.int k) a=>K (.d (.int k) (k.wrap (-a)))
  | _=>none)
 | .nilCheck x=>(ev x).bind fun a=>(match a with
  | .ep d v o=>K (.ep d v o)
  | .p (.ptr k o)=>K (.p (.ptr k o))
  | .ap k off m i y o=>K (.ap k off m i y o)
  | _=>none)
 | .fieldAddr t x j=>(ev x).bind fun a=>fav B0 t j a K
 | .load t x=>(ev x).bind fun a=>ldv B0 L c own t a K
 | .field t x j=>(ev x).bind fun a=>fv B0 L t j a K
 | .slice t (.global gb) none none none=>(B0.gs gb).bind fun q=>(match B0.ta t with
  | some (d',n)=>if d' = q.1 ∧ n = q.2.length ∧ sz D q.1 = 1 then K (.d (.sl q.1) q.2) else none
  | none=>none)
 | .indexAddr t (.global gb) y=>(B0.gs gb).bind fun q=>(match B0.ta t with
  | some (d',n)=>if d' = q.1 ∧ n = q.2.length then (ev y).bind fun b=>(match b with
   | .d (.int _) i=>(AS c (aH q.2 i)).bind fun z=>K (.ep q.1 z 0)
   | _=>none) else none
  | none=>none)
 | .indexAddr t x y=>(ev x).bind fun a=>(ev y).bind fun b=>idxv B0 L c own t a b K
 | .index t x y=>(ev x).bind fun a=>(ev y).bind fun b=>idsv B0 L c t a b K
 | .convert a b x=>(ev x).bind fun v=>cnv B0 a b v K
 | .slice t x lo hi none=>(ev x).bind fun a=>slv B0 L c ev t a lo hi K
 | .buildSlice t len ps=>(B0.ty t).bind fun d=>(match d with
  | .sl d=>if ps.toList.length = len ∧ 0 < len ∧ 0 < sz D d ∧ len * sz D d ≤ 16777216 then (elv ev d 0 ps.toList).bind fun l=>K (.d (.sl d) l) else none
  | _=>none)
 | .lookup t x y false=>(ev x).bind fun a=>(ev y).bind fun b=>mgt B0 own t a b fun d z=>K (.d d (z.getD (zv D d)))
 | .makeInterface T x=>(ev x).bind fun a=>(match a with
  | .d (.st i) v=>if B0.cc T = true then K (.ifc T (.st i) v) else none
  | _=>none)
 | .makeFunc (.func f) ⟨xs⟩ ⟨ys⟩=>mkf ev f xs ys K
 | .build t ps=>(B0.bl t).bind fun q=>(bldv L ev q.1 q.2 ps.toList (D.z q.1)).bind fun v=>K (.d (.st q.1) v)
 | .call ⟨.builtin .len,⟨[x]⟩,⟨[t]⟩⟩=>(ev x).bind fun a=>lenv B0 own t a K
 | .call ⟨.builtin .min,⟨[x,y]⟩,_⟩=>(ev x).bind fun a=>(ev y).bind fun b=>(match a with
  | .d (.int k) a=>(gl (.int k) b).bind fun b=>K (.d (.int k) (min a b))
  | _=>none)
 | .call ⟨.builtin .max,⟨[x,y]⟩,_⟩=>(ev x).bind fun a=>(ev y).bind fun b=>(match a with
  | .d (.int k) a=>(gl (.int k) b).bind fun b=>K (.d (.int k) (max a b))
  | _=>none)
 | _=>none
end
section
variable {P:Program} {D:Dt} [DecidableEq D.σ] {TB:aF} {B0:Tb P D TB} {L:Lay D} {R:Type} {E:Env TB} {n:Sh} {s:St} {dst:Option Nat} {t ty yt:TypeId} {pos:String} {after:Array Edge} {g:Option (Nat × Bool)} {x y:Operand} {c:Option Bool} {K:T0 D → Option R} {r:R} {own:List (Nat × TO D)} {ev:Operand → Option (T0 D)} {u v:T0 D}
def Dv (s:St) (own:List (Nat × TO D)):Prop:=∀ k c,lk own k = some c → lk s.own k = some c.oc
def Out (P:Program) {TB:aF} (E:Env TB) (n:Sh) (s:St) (c:Option Bool) (own:List (Nat × TO D)) (ev:Operand → Option (T0 D)) (dst:Option Nat) (o:Op) (ty:TypeId) (pos:String) (after:Array Edge) (g:Option (Nat × Bool)) (K:T0 D → Option R) (r:R):Prop :=
 ∃ z,K z = some r ∧ ∀ {s:St},(c ≠ some false → (∀ x y,ev x = some y → s.ev x = some (.b y.bv)) → Dv s own → aR P E n ⟨dst,o,ty,pos,after,g⟩ s (s.put n dst (.b z.bv)))
theorem oO {d d0:DT D.σ} {v:V D d0} {o:Nat} {z:V D d} (h:pz L d d0 v o = some z):((enc D d0 v).drop o).take (sz D d) = enc D d z:=(qU L d 8 _ _ _ _ h).1
theorem zf {α:Type} {l:List α} {o:Nat} {p:α} (h:(l.drop o).take 1 = [p]):l[o]? = some p:=by
 have:((l.drop o).take 1)[0]? = some p:=by rw [h]; rfl
 rw [List.getElem?_take] at this
 simpa using this
theorem p8 {d:DT D.σ} (h:agg d = false):sz D d = 1:=by cases d <;> first | rfl | cases h
theorem py {d:DT D.σ} (h:yA P D t d) (ha:agg d = false):cS P t:=by
 cases d with
 | int _=>exact h.2
 | bool=>exact h.2
 | str=>exact h.2
 | sl _=>exact h.1
 | st _=>cases ha
 | u=>exact h
theorem xM {d:DT D.σ} (h:yA P D t d) (ha:agg d = true):gg P t (sz D d):=by
 cases d with
 | st _=>exact h
 | _=>cases ha
theorem drop_take {l e e2:List CP} {off n o m:Nat} (h1:(l.drop off).take n = e) (h2:(e.drop o).take m = e2) (h3:o + m ≤ n):(l.drop (off + o)).take m = e2:=by
 subst h1
 rw [List.drop_take,List.drop_drop,List.take_take] at h2
 rw [← h2]
 congr 1
 omega
theorem Ci {i:D.σ} {a:AV D i} (h:Hz B0 own t i a = true):∃ e,k7 P t e a.n (sz D a.d) ∧ yA P D e a.d:=by
 unfold Hz at h
 split at h
 ·next d n hd=>
  have:d = a.d ∧ n = a.n:=by simpa using h
  obtain ⟨rfl,rfl⟩:=this
  exact B0.tao _ _ _ hd
 ·cases h
theorem zo {i:D.σ} {a:AV D i} {w:D.T i} {y:Int} {z:V D a.d} (h:aH (a.al w) y = some z):0 ≤ y ∧ y < a.n ∧ (a.al w)[y.toNat]? = some z:=⟨fa h,by rw [← a.h1 w]; exact mO h,oL h⟩
theorem ldv_ok (h:ldv B0 L c own t u K = some r):∃ z,K z = some r ∧ ∀ {s:St},(c ≠ some false → s.ev x = some (.b u.bv) → Dv s own → aR P E n ⟨dst,.load t x,ty,pos,after,g⟩ s (s.put n dst (.b z.bv))):=by
 obtain ⟨d,ht,h1⟩:=aJ h
 have ht:=B0.tok _ _ ht
 have key:∀ {s:St} {k o:Nat} {T:TypeId} {ps:List CP} {z:V D d},s.ev x = some (.b (.ptr k o)) → lk s.own k = some (.box T ps) → (ps.drop o).take (sz D d) = enc D d z → aR P E n ⟨dst,.load t x,ty,pos,after,g⟩ s (s.put n dst (.b (iC D d z))):=by
  intro s k o T ps z hx hk hp
  cases ha:agg d with
  | true=>
   rw [lg ha]
   exact tF (xM ht ha) hx hk hp ca
  | false=>
   obtain ⟨p,e1,e2⟩:=ky (v:=z) ha
   rw [e1]
   rw [p8 ha,e2] at hp
   exact aI (py ht ha) hx hk (zf hp)
 split at h1
 ·next k m y o=>
  split at h1
  ·next T d0 l hk=>
   split at h1
   ·next hm=>
    subst hm
    obtain ⟨z,hz,h2⟩:=aJ h1
    obtain ⟨q,hq,h3⟩:=aJ h2
    refine ⟨_,h3,fun {s} hc hx ho=>?_⟩
    have hz:=fb hz hc
    have hk':lk s.own k = some (.row T (sz D d0) (l.map (enc D d0))):=ho _ _ hk
    have hi:(l.map (enc D d0))[y.toNat]? = some (enc D d0 z):=qW hz
    have hp:=oO hq
    cases ha:agg d with
    | true=>
     show aR P E n _ s (s.put n dst (.b (iC D d q)))
     rw [lg ha]
     exact HS (xM ht ha) hx hk' rfl hi hp ca
    | false=>
     obtain ⟨p,e1,e2⟩:=ky (v:=q) ha
     show aR P E n _ s (s.put n dst (.b (iC D d q)))
     rw [e1]
     rw [p8 ha,e2] at hp
     exact u3 (py ht ha) hx hk' rfl hi (zf hp)
   ·cases h1
  ·cases h1
 ·next k off m i y o=>
  obtain ⟨a,_,h2⟩:=aJ h1
  split at h2
  ·next hm=>
   subst hm
   split at h2
   ·next T d0 v hk=>
    obtain ⟨w,hw,h3⟩:=aJ h2
    obtain ⟨z,hz,h4⟩:=aJ h3
    obtain ⟨q,hq,h5⟩:=aJ h4
    refine ⟨_,h5,fun {s} hc hx ho=>?_⟩
    obtain ⟨_,_,hz2⟩:=zo (fb hz hc)
    obtain ⟨e1,e2⟩:=qU L (.st i) 8 _ _ _ _ hw
    obtain ⟨e3,e4⟩:=a.at_ hz2
    obtain ⟨e5,e6⟩:=qU L d 8 _ _ _ _ hq
    refine key hx (ho _ _ hk) ?_
    rw [Nat.add_assoc]
    have hl:(D.e i w).length = D.n i:=D.len i w
    exact drop_take e1 (drop_take e3 e5 e6) (by show _ ≤ D.n i; rw [← hl]; omega)
   ·cases h2
  ·cases h2
 ·next d0 v o=>
  obtain ⟨z,e,h2⟩:=aJ h1
  refine ⟨_,h2,fun {s} _ hx _=>?_⟩
  have hp:=oO e
  cases ha:agg d with
  | true=>
   show aR P E n _ s (s.put n dst (.b (iC D d z)))
   rw [lg ha]
   exact HU (xM ht ha) hx hp ca
  | false=>
   obtain ⟨p,e1,e2⟩:=ky (v:=z) ha
   show aR P E n _ s (s.put n dst (.b (iC D d z)))
   rw [e1]
   rw [p8 ha,e2] at hp
   exact kD (py ht ha) hx (by have:=zf hp; simpa using this)
 ·next k o=>
  obtain ⟨b,hk,h2⟩:=aJ h1
  split at h2
  ·next T d0 v=>
   obtain ⟨z,e,h3⟩:=aJ h2
   exact ⟨_,h3,fun {s} _ hx ho=>key hx (ho _ _ hk) (oO e)⟩
  ·next T i k' kr fg v=>
   split at h2
   ·next hc=>
    obtain ⟨⟨rfl,hag⟩,hon⟩:=hc
    split at h2
    ·next hxs=>
     obtain ⟨z,e,h3⟩:=aJ h2
     refine ⟨_,h3,fun {s} _ hx ho=>?_⟩
     have hk':lk s.own k' = some (.ba T (kW k' kr fg (D.xs i) (D.e i v))):=ho _ _ hk
     have hp:=oO e
     obtain ⟨p,e1,e2⟩:=ky (v:=z) hag
     rw [p8 hag,e2] at hp
     show aR P E n _ s (s.put n dst (.b (iC D d z)))
     rw [e1]
     exact cy (py ht hag) hx hk' (vz hxs (zf hp))
    ·next hxs=>
     split at h2
     ·next hfg=>
      subst hfg
      refine ⟨_,h2,fun {s} _ hx ho=>?_⟩
      have hk':lk s.own k' = some (.ba T (kW k' kr false (D.xs i) (D.e i v))):=ho _ _ hk
      have hlen:o < (D.e i v).length:=by
       rw [D.len]
       exact hon
      exact cy (py ht hag) hx hk' (vz hxs (List.getElem?_eq_getElem hlen))
     ·cases h2
    ·cases h2
   ·cases h2
  ·next T k'=>
   split at h2
   ·next hc=>
    obtain ⟨rfl,hag⟩:=hc
    exact ⟨_,h2,fun {s} _ hx ho=>cy (py ht hag) hx (ho _ _ hk) rfl⟩
   ·cases h2
  ·cases h2
 ·cases h1
theorem fv_ok {j:Nat} (h:fv B0 L t j u K = some r):∃ z,K z = some r ∧ ∀ {s:St},(s.ev x = some (.b u.bv) → aR P E n ⟨dst,.field t x j,ty,pos,after,g⟩ s (s.put n dst (.b z.bv))):=by
 obtain ⟨q,hq,h1⟩:=aJ h
 obtain ⟨d,ht,h2⟩:=aJ h1
 have ht:=B0.tok _ _ ht
 have hf:=B0.fok _ _ q.1 q.2 hq
 split at h2
 ·next i v=>
  obtain ⟨z,e,h3⟩:=aJ h2
  refine ⟨_,h3,fun {s} hx=>?_⟩
  have hp:=oO e
  cases ha:agg d with
  | true=>
   show aR P E n _ s (s.put n dst (.b (iC D d z)))
   rw [lg ha]
   exact HV hf (xM ht ha) hx hp
  | false=>
   obtain ⟨p,e1,e2⟩:=ky (v:=z) ha
   show aR P E n _ s (s.put n dst (.b (iC D d z)))
   rw [e1]
   rw [p8 ha,e2] at hp
   exact FL hf (py ht ha) hx (zf hp)
 ·cases h2
theorem fav_ok {j:Nat} (h:fav B0 t j u K = some r):∃ z,K z = some r ∧ ∀ {s:St},(s.ev x = some (.b u.bv) → aR P E n ⟨dst,.fieldAddr t x j,ty,pos,after,g⟩ s (s.put n dst (.b z.bv))):=by
 obtain ⟨q,hq,h1⟩:=aJ h
 have hf:=B0.fok _ _ q.1 q.2 hq
 split at h1
 ·exact ⟨_,h1,fun {s} hx=>FN hf hx (by rw [List.drop_drop])⟩
 ·exact ⟨_,h1,fun {s} hx=>FM hf hx (by omega)⟩
 ·exact ⟨_,h1,fun {s} hx=>ax hf hx rfl⟩
 ·exact ⟨_,h1,fun {s} hx=>ax hf hx (by omega)⟩
 ·cases h1
theorem idxv_ok (h:idxv B0 L c own t u v K = some r):∃ z,K z = some r ∧ ∀ {s:St},(c ≠ some false → s.ev x = some (.b u.bv) → s.ev y = some (.b v.bv) → Dv s own → aR P E n ⟨dst,.indexAddr t x y,ty,pos,after,g⟩ s (s.put n dst (.b z.bv))):=by
 unfold idxv at h
 split at h
 ·split at h
  ·next i hi=>
   obtain ⟨a,_,h1⟩:=aJ h
   split at h1
   ·next ha=>
    split at h1
    ·next T d0 v0 hk=>
     obtain ⟨w,hw,h2⟩:=aJ h1
     obtain ⟨z,hz,h3⟩:=aJ h2
     refine ⟨_,h3,fun {s} hc hx hy _=>?_⟩
     obtain ⟨e,h4,_⟩:=Ci ha
     obtain ⟨g1,g2,_⟩:=zo (fb hz hc)
     exact mB h4 g1 g2 hx hy (by omega)
    ·cases h1
   ·cases h1
  ·cases h
 ·split at h
  ·next T d l hk=>
   split at h
   ·next d2 ht=>
    split at h
    ·next e=>
     subst e
     obtain ⟨z,hz,h1⟩:=aJ h
     obtain ⟨_,et,bytes,zs,hsl⟩:=B0.tok _ _ ht
     refine ⟨_,h1,fun {s} hc hx hy ho=>?_⟩
     have hz:=fb hz hc
     have hk':lk s.own _ = some (.row T (sz D d) (l.map (enc D d))):=ho _ _ hk
     exact oR hsl (fa hz) (by rw [List.length_map]; exact mO hz) hx hk' hy (by omega)
    ·cases h
   ·cases h
  ·cases h
 ·split at h
  ·next i hi=>
   obtain ⟨a,_,h1⟩:=aJ h
   split at h1
   ·next ha=>
    obtain ⟨w,hw,h2⟩:=aJ h1
    obtain ⟨z,hz,h3⟩:=aJ h2
    refine ⟨_,h3,fun {s} hc hx hy _=>?_⟩
    obtain ⟨e,h4,_⟩:=Ci ha
    obtain ⟨g1,g2,g3⟩:=zo (fb hz hc)
    obtain ⟨e1,e2⟩:=qU L (.st i) 8 _ _ _ _ hw
    obtain ⟨e3,e4⟩:=a.at_ g3
    have hl:(D.e i w).length = D.n i:=D.len i w
    refine Ew h4 g1 g2 hx hy ?_
    rw [List.drop_zero,List.drop_drop]
    exact drop_take e1 e3 (by show _ ≤ D.n i; rw [← hl]; exact e4)
   ·cases h1
  ·cases h
 ·split at h
  ·next d2 ht=>
   split at h
   ·next e=>
    subst e
    obtain ⟨z,e,h1⟩:=aJ h
    obtain ⟨_,et,bytes,zs,hsl⟩:=B0.tok _ _ ht
    exact ⟨_,h1,fun {s} hc hx hy _=>rh hsl (fa (fb e hc)) (qW (e:=enc D _) (fb e hc)) hx hy⟩
   ·cases h
  ·cases h
 ·cases h
theorem idsv_ok (h:idsv B0 L c t u v K = some r):∃ z,K z = some r ∧ ∀ {s:St},(c ≠ some false → s.ev x = some (.b u.bv) → s.ev y = some (.b v.bv) → aR P E n ⟨dst,.index t x y,ty,pos,after,g⟩ s (s.put n dst (.b z.bv))):=by
 unfold idsv at h
 split at h
 ·next i v0 _ y0=>
  obtain ⟨a,_,h1⟩:=aJ h
  split at h1
  ·next ha=>
   obtain ⟨z,hz,h2⟩:=aJ h1
   refine ⟨_,h2,fun {s} hc hx hy=>?_⟩
   obtain ⟨e,h4,h5⟩:=Ci ha
   obtain ⟨g1,g2,g3⟩:=zo (fb hz hc)
   obtain ⟨e3,e4⟩:=a.at_ g3
   cases hag:agg a.d with
   | true=>
    show aR P E n _ s (s.put n dst (.b (iC D a.d z)))
    rw [lg hag]
    exact Ex h4 (xM h5 hag) hx hy g1 g2 e3
   | false=>
    obtain ⟨p,e1,e2⟩:=ky (v:=z) hag
    show aR P E n _ s (s.put n dst (.b (iC D a.d z)))
    rw [e1]
    rw [p8 hag,e2] at e3
    rw [p8 hag] at h4
    exact Ey h4 (py h5 hag) hx hy g1 g2 (by have:=zf e3; simpa using this)
  ·cases h1
 ·split at h
  ·next ht=>
   obtain ⟨z,e,h1⟩:=aJ h
   exact ⟨_,h1,fun {s} hc hx hy=>gP (B0.tok _ _ ht).1 hx hy (fa (fb e hc)) (oL (fb e hc))⟩
  ·cases h
 ·cases h
theorem lenv_ok {x:Operand} (h:lenv B0 own t u K = some r):∃ z,K z = some r ∧ ∀ {s:St},(s.ev x = some (.b u.bv) → Dv s own → aR P E n ⟨dst,.call ⟨.builtin .len,#[x],#[t]⟩,ty,pos,after,g⟩ s (s.put n dst (.b z.bv))):=by
 unfold lenv at h
 split at h
 ·split at h
  ·next ht=>exact ⟨_,h,fun {s} hx _=>fY (B0.tok _ _ ht).1 hx⟩
  ·cases h
 ·split at h
  ·next d l d2 ht=>
   obtain ⟨_,et,bytes,zs,hsl⟩:=B0.tok _ _ ht
   exact ⟨_,h,fun {s} hx _=>tG hsl.und hx (by simp)⟩
  ·cases h
 ·split at h
  ·next k _ d2 ht=>
   obtain ⟨_,et,bytes,zs,hsl⟩:=B0.tok _ _ ht
   obtain ⟨c,hc,h1⟩:=aJ h
   split at h1
   ·next T d l=>
    refine ⟨_,h1,fun {s} hx ho=>?_⟩
    have hk:lk s.own k = some (.row T (sz D d) (l.map (enc D d))):=ho _ _ hc
    exact xj hsl.und hx hk (by simp)
   ·cases h1
  ·cases h
 ·cases h
theorem cnv_ok {a b:TypeId} (h:cnv B0 a b u K = some r):∃ z,K z = some r ∧ ∀ {s:St},(s.ev x = some (.b u.bv) → aR P E n ⟨dst,.convert a b x,ty,pos,after,g⟩ s (s.put n dst (.b z.bv))):=by
 unfold cnv at h
 split at h
 ·split at h
  ·next h1 h2=>
   split at h
   ·next e=>
    subst e
    exact ⟨_,h,fun {s} hx=>fK (B0.tok _ _ h1).1 (B0.tok _ _ h2).1 hx⟩
   ·cases h
  ·cases h
 ·cases h
theorem CQ {α:Type} {e:TypeId} {m size:Nat} {ps:List CP} {xs:List α} {en:α → List CP} (ht:k7 P t e m size) (hx:s.ev x = some (.b (.jY ps))) (hp:ps.take (m * size) = (xs.map en).flatten) (hl:xs.length = m) (he:∀ z,(en z).length = size) (hz:0 < size) (hm:m ≤ maxLen) :
  aR P E n ⟨dst,.slice t x none none none,ty,pos,after,g⟩ s (s.put n dst (.b (.one (.sl size (xs.map en))))) :=
 aR.val (o:=⟨dst,.slice t x none none none,ty,pos,after,g⟩) fun ac w h ρ hw hs=>by
  obtain ⟨b,o,hv,hr⟩:=(aC hs hx:BV.rel h ρ (.jY ps) _)
  obtain ⟨i,hi,hsz⟩:=ht.info
  have e1:P.arrayLen t = m:=by simp [Program.arrayLen,ht.und]
  have e2:P.elem t = e:=by simp [Program.elem,ht.und]
  have hu:P.underlying t = some (.array (P.arrayLen t) (P.elem t)):=by rw [e1,e2]; exact ht.und
  refine ⟨.slice (some ⟨b,o,none⟩) m m,?_,?_⟩
  ·simp only [execOp,hv,Option.map_none]
   have hs2:(sizeOf e).run P w = .ok i.size w:=by simp [sizeOf,typeInfo,hi]
   rw [Sem.run_bind,run_sliceAt_array_all w t _ hu,e2,hs2,Result.andThen]
   simp [slicedAt,e1,iJ]
  ·refine ⟨fun qs hq=>?_,hz,.inr (.inl ⟨b,o,m,?_,?_,hm,hp ▸ (fun j c hj=>hr j c (by rw [List.getElem?_take] at hj; split at hj; exact hj; cases hj))⟩)⟩
   ·obtain ⟨z,_,rfl⟩:=List.mem_map.1 hq
    exact he z
   ·rw [List.length_map,hl]
   ·rw [List.length_map,hl]; exact Nat.le_refl _
theorem slv_ok {lo hi:Option Operand} (h:slv B0 L c ev t u lo hi K = some r):∃ z,K z = some r ∧ ∀ {s:St},(c ≠ some false → (∀ x y,ev x = some y → s.ev x = some (.b y.bv)) → s.ev x = some (.b u.bv) → aR P E n ⟨dst,.slice t x lo hi none,ty,pos,after,g⟩ s (s.put n dst (.b z.bv))):=by
 unfold slv at h
 split at h
 ·split at h
  ·next ht=>
   have ht:=(B0.tok _ _ ht).1
   split at h
   ·obtain ⟨a,ea,h1⟩:=aJ h
    obtain ⟨b,eb,h2⟩:=aJ h1
    split at h2
    ·obtain ⟨z,e,h3⟩:=aJ h2
     exact ⟨_,h3,fun {s} hc he hx=>ou ht (fb e hc) hx (he _ _ ea) (he _ _ eb)⟩
    ·cases h2
   ·obtain ⟨a,ea,h1⟩:=aJ h
    split at h1
    ·obtain ⟨z,e,h3⟩:=aJ h1
     exact ⟨_,h3,fun {s} hc he hx=>oX ht (fb e hc) hx (he _ _ ea)⟩
    ·cases h1
   ·obtain ⟨a,ea,h1⟩:=aJ h
    split at h1
    ·obtain ⟨z,e,h3⟩:=aJ h1
     exact ⟨_,h3,fun {s} hc he hx=>AD ht (fb e hc) hx (he _ _ ea)⟩
    ·cases h1
   ·cases h
  ·cases h
 ·split at h
  ·next ht=>
   split at h
   ·next e=>
    subst e
    obtain ⟨_,et,bytes,zs,hsl⟩:=B0.tok _ _ ht
    split at h
    ·obtain ⟨a,ea,h1⟩:=aJ h
     obtain ⟨b,eb,h2⟩:=aJ h1
     split at h2
     ·obtain ⟨z,e,h3⟩:=aJ h2
      exact ⟨_,h3,fun {s} hc he hx=>FI hsl (fb e hc) hx (he _ _ ea) (he _ _ eb)⟩
     ·cases h2
    ·obtain ⟨a,ea,h1⟩:=aJ h
     split at h1
     ·obtain ⟨z,e,h3⟩:=aJ h1
      exact ⟨_,h3,fun {s} hc he hx=>Ep hsl (fb e hc) hx (he _ _ ea)⟩
     ·cases h1
    ·obtain ⟨a,ea,h1⟩:=aJ h
     split at h1
     ·obtain ⟨z,e,h3⟩:=aJ h1
      exact ⟨_,h3,fun {s} hc he hx=>Er hsl (fb e hc) hx (he _ _ ea)⟩
     ·cases h1
    ·cases h
   ·cases h
  ·cases h
 ·next d0 v o=>
  split at h
  ·split at h
   ·next i hi=>
    obtain ⟨a,_,h1⟩:=aJ h
    split at h1
    ·next hc=>
     obtain ⟨⟨ha,hz⟩,hn⟩:=hc
     obtain ⟨w,hw,h2⟩:=aJ h1
     refine ⟨_,h2,fun {s} hc he hx=>?_⟩
     obtain ⟨e,h4,_⟩:=Ci ha
     have hp:=oO hw
     have hlen:(a.al w).length = a.n:=a.h1 w
     have he2:(enc D (.st i) w) = ((a.al w).map (enc D a.d)).flatten:=a.h3 w
     have hl2:(((enc D d0 v).drop o).take (a.n * sz D a.d)) = ((a.al w).map (enc D a.d)).flatten:=by
      have:sz D (.st i) = a.n * sz D a.d:=by
       have e1:(enc D (.st i) w).length = sz D (.st i):=ca
       rw [← e1,he2,gF (size:=sz D a.d) (fun q hq=>by obtain ⟨z,_,rfl⟩:=List.mem_map.1 hq; exact ca),List.length_map,hlen]
      rw [← this,hp,he2]
     exact CQ h4 hx hl2 (by rw [hlen]) (fun z=>ca) hz (Nat.le_trans hn (by decide))
    ·cases h1
   ·cases h
  ·cases h
 ·cases h
theorem xD {d:DT D.σ} {v:V D d}:(SV.b (iC D d v)).cells = some (enc D d v):=by cases d <;> rfl
theorem Hp {i:D.σ} {pl:List (Nat × Nat)} (he:∀ x y,ev x = some y → s.ev x = some (.b y.bv)):∀ {l:List (Nat × Operand)} {v w:D.T i},bldv L ev i pl l v = some w → ∃ cps,eE s l = some cps ∧ ir (pl.toArray[·]?) (D.e i v) cps = some (D.e i w)
 | [],v,w,h=>by cases h; exact ⟨[],rfl,rfl⟩
 | (j,x) :: l,v,w,h=>by
  unfold bldv at h
  obtain ⟨q,hq,h1⟩:=aJ h
  obtain ⟨d,hd,h2⟩:=aJ h1
  split at h2
  ·next hs=>
   obtain ⟨a,ha,h3⟩:=aJ h2
   obtain ⟨u,hu,h4⟩:=aJ h3
   obtain ⟨v',hv,h5⟩:=aJ h4
   cases df hu
   obtain ⟨cps,e1,e2⟩:=Hp he h5
   obtain ⟨e3,e4⟩:=qT L d u 8 _ _ _ _ hv
   refine ⟨(j,enc D d u) :: cps,?_,?_⟩
   ·simp only [eE,he _ _ ha,Option.bind_some]
    rw [show (SV.b (T0.d d u).bv).cells = some (enc D d u) from xD,e1]
    rfl
   ·have hl:(enc D d u).length = sz D d:=ca
    have hl2:(D.e i v).length = sz D (.st i):=D.len i v
    simp only [ir,List.getElem?_toArray,hq,Option.bind_some]
    rw [if_pos ⟨by rw [hl]; exact hs.symm,by rw [hl,hl2]; exact e4⟩]
    rw [show Sk.aN (D.e i v) q.1 (enc D d u) = D.e i v' from e3]
    simpa only [List.getElem?_toArray] using e2
  ·cases h2
def RdOk (go:(d:DT D.σ) → List Value → Option (V D d × List Value)):Prop:=∀ d l r,go d l = some r → ∃ pre,l = pre ++ r.2 ∧ ∀ h,aA h (enc D d r.1) pre
theorem I6 {go:(d:DT D.σ) → List Value → Option (V D d × List Value)} (hg:RdOk go):∀ {l:List (DT D.σ)} {vs:List Value} {r:HT D l × List Value},rdH go l vs = some r → ∃ pre,vs = pre ++ r.2 ∧ ∀ h,aA h (jj l r.1) pre
 | [],vs,r,h=>by cases h; exact ⟨[],rfl,fun h=>.nil⟩
 | d :: l,vs,r,h=>by
  obtain ⟨a,ha,h1⟩:=aJ h
  obtain ⟨b,hb,h2⟩:=aJ h1
  cases h2
  obtain ⟨p1,e1,e2⟩:=hg _ _ _ ha
  obtain ⟨p2,e3,e4⟩:=I6 hg hb
  exact ⟨p1 ++ p2,by rw [e1,e3,List.append_assoc],fun h=>aQ.append (e2 h) (e4 h)⟩
theorem E9:∀ {n:Nat},RdOk (rdc L n)
 | 0=>fun d l r h=>by cases h
 | n + 1=>fun d l r h=>by
  unfold rdc at h
  split at h
  ·next k k' m l=>
   split at h
   ·next hc=>obtain ⟨rfl,h1,h2⟩:=hc; cases h; exact ⟨[.int k' m],rfl,fun h=>.cons ⟨rfl,h1,h2⟩ .nil⟩
   ·cases h
  ·next b l=>cases h; exact ⟨[.bool b],rfl,fun h=>.cons rfl .nil⟩
  ·next s l=>
   split at h
   ·next hc=>cases h; exact ⟨[.string s],rfl,fun h=>.cons ⟨rfl,hc⟩ .nil⟩
   ·cases h
  ·next d l=>
   split at h
   ·next hc=>cases h; exact ⟨[.slice none 0 0],rfl,fun h=>.cons ⟨fun ps hp=>(by cases hp),hc,.inl ⟨rfl,rfl⟩⟩ .nil⟩
   ·cases h
  ·next i=>
   obtain ⟨r',hr,h1⟩:=aJ h
   cases h1
   obtain ⟨pre,e1,e2⟩:=I6 (E9 (n:=n)) hr
   refine ⟨pre,e1,fun h=>?_⟩
   have:=e2 h
   show aA h (D.e i (L.pk i r'.1)) pre
   rw [L.eu,L.um]
   exact this
  ·cases h
theorem Jx {d:DT D.σ} {v:Value} {z:V D d} (h:cvT L d v = some z) (hh:PH) (ρ:RM):(iC D d z).rel hh ρ v:=by
 unfold cvT at h
 split at h
 ·next cs ha=>
  obtain ⟨r',hr,h1⟩:=aJ h
  obtain ⟨pre,e1,e2⟩:=E9 _ _ _ hr
  split at h1
  ·next e=>
   cases h1
   rw [e,List.append_nil] at e1
   rw [lg ha]
   exact ⟨cs,rfl,e1 ▸ e2 hh⟩
  ·cases h1
 ·next v ha=>
  obtain ⟨r',hr,h1⟩:=aJ h
  obtain ⟨pre,e1,e2⟩:=E9 _ _ _ hr
  split at h1
  ·next e=>
   cases h1
   rw [e,List.append_nil] at e1
   obtain ⟨p,e3,e4⟩:=ky (v:=r'.1) ha
   rw [e3]
   have:=e2 hh
   rw [e4,← e1] at this
   cases this with
   | cons h1 _=>exact h1
  ·cases h1
 ·cases h
theorem asg_ok (h:asg B0 L ev ty x K = some r):∃ z,K z = some r ∧ ∀ {s:St},((∀ x y,ev x = some y → s.ev x = some (.b y.bv)) → aR P E n ⟨dst,.assign x,ty,pos,after,g⟩ s (s.put n dst (.b z.bv))):=by
 unfold asg at h
 split at h
 ·next v=>
  split at h
  ·next a ha=>exact ⟨_,h,fun {s} _=>xk (CF ha _)⟩
  ·obtain ⟨d,hd,h1⟩:=aJ h
   obtain ⟨z,hz,h2⟩:=aJ h1
   exact ⟨_,h2,fun {s} _=>aR.val (o:=⟨dst,.assign (.const v),ty,pos,after,g⟩) fun ac w hh ρ hw hs=>⟨v,rfl,Jx hz hh ρ⟩⟩
 ·obtain ⟨a,ea,h1⟩:=aJ h
  exact ⟨_,h1,fun {s} he=>xk (he _ _ ea)⟩
def ixs {α:Type}:Nat → List α → List (Nat × α)
 | _,[]=>[]
 | j,a :: l=>(j,a) :: ixs (j + 1) l
theorem tJ {size:Nat}:∀ {es:List (List CP)} {j:Nat} {pre rest:List CP},cb size es → pre.length = j * size → rest.length = es.length * size → ir (fun i=>some (i * size,size)) (pre ++ rest) (ixs j es) = some (pre ++ es.flatten)
 | [],j,pre,rest,_,_,h=>by
  have:rest = []:=List.eq_nil_of_length_eq_zero (by simpa using h)
  simp [ixs,ir,this]
 | e :: es,j,pre,rest,hu,hp,hr=>by
  have he:e.length = size:=hu e List.mem_cons_self
  simp only [List.length_cons,Nat.add_mul,Nat.one_mul] at hr
  simp only [ixs,ir,Option.bind_some]
  rw [if_pos ⟨he,by simp; omega⟩]
  have hs:Sk.aN (pre ++ rest) (j * size) e = (pre ++ e) ++ rest.drop size:=by
   simp only [Sk.aN]
   rw [← hp,List.take_left,List.drop_append,he,List.drop_eq_nil_of_le (by omega)]
   simp
  rw [hs,tJ (fun q hq=>hu q (List.mem_cons_of_mem _ hq)) (by simp [hp,he,Nat.add_mul]) (by simp; omega)]
  simp
theorem Fv {d:DT D.σ} (he:∀ x y,ev x = some y → s.ev x = some (.b y.bv)):∀ {l:List (Nat × Operand)} {j:Nat} {vs:List (V D d)},elv ev d j l = some vs → eE s l = some (ixs j (vs.map (enc D d))) ∧ vs.length = l.length
 | [],j,vs,h=>by cases h; exact ⟨rfl,rfl⟩
 | (i,x) :: l,j,vs,h=>by
  unfold elv at h
  split at h
  ·next e=>
   simp only at e
   subst e
   obtain ⟨a,ha,h1⟩:=aJ h
   obtain ⟨v,hv,h2⟩:=aJ h1
   obtain ⟨r',hr,h3⟩:=aJ h2
   cases h3
   cases df hv
   obtain ⟨e1,e2⟩:=Fv he hr
   refine ⟨?_,by simp [e2]⟩
   simp only [eE,he _ _ ha,Option.bind_some]
   rw [show (SV.b (T0.d d v).bv).cells = some (enc D d v) from xD,e1]
   rfl
  ·cases h
theorem Cg {s:St} {ev:Operand → Option (T0 D)} (he:∀ x y,ev x = some y → s.ev x = some (.b y.bv)):∀ {l:List Operand} {r:List CV},Iz ev l = some r → vv s l = some r
 | [],r,h=>by cases h; rfl
 | x :: l,r,h=>by
  obtain ⟨a,ea,h1⟩:=aJ h
  have hx:=he _ _ ea
  split at h1
  ·obtain ⟨q,eq,h2⟩:=aJ h1
   cases h2
   simp only [vv,evCV,evB,hx,Cg he eq]
   rfl
  ·obtain ⟨q,eq,h2⟩:=aJ h1
   cases h2
   simp only [vv,evCV,evB,hx,Cg he eq]
   rfl
  ·cases h1
theorem mkf_ok {f:FuncId} {xs ys:List Operand} (h:mkf ev f xs ys K = some r):∃ z,K z = some r ∧ ∀ {s:St},((∀ x y,ev x = some y → s.ev x = some (.b y.bv)) → aR P E n ⟨dst,.makeFunc (.func f) ⟨xs⟩ ⟨ys⟩,ty,pos,after,g⟩ s (s.put n dst (.b z.bv))):=by
 unfold mkf at h
 split at h
 ·exact ⟨_,h,fun {s} _=>CU⟩
 ·obtain ⟨a,ea,h1⟩:=aJ h
  obtain ⟨b,eb,h2⟩:=aJ h1
  exact ⟨_,h2,fun {s} he=>eg (Cg he ea) (Cg he eb)⟩
theorem Jf {KK:(d:DT D.σ) → Option (V D d) → Option R} (h:mgt B0 own t u v KK = some r):∃ d z,KK d z = some r ∧ ∀ {s:St},(s.ev x = some (.b u.bv) → s.ev y = some (.b v.bv) → Dv s own →
  aR P E n ⟨dst,.lookup t x y false,ty,pos,after,g⟩ s (s.put n dst (.b (iC D d (z.getD (zv D d))))) ∧ aR P E n ⟨dst,.lookup t x y true,ty,pos,after,g⟩ s (s.put n dst (.kU [iC D d (z.getD (zv D d)),.one (.bool z.isSome)]))):=by
 unfold mgt at h
 split at h
 ·next k=>
  split at h
  ·next d es hk=>
   split at h
   ·next d' hm=>
    split at h
    ·next e=>
     subst e
     obtain ⟨s',hs',h1⟩:=aJ h
     cases df hs'
     obtain ⟨kt,et,hu,hz⟩:=B0.mto _ _ _ hm
     refine ⟨_,_,h1,fun {s} hx hy ho=>?_⟩
     have hj:lk s.own k = some (.mp (vo CP.str (es.map fun p=>(p.1,iC D d' p.2)))):=ho _ _ hk
     have hr:(dY (es.map fun p=>(p.1,iC D d' p.2)) s').getD (iC D d' (zv D d')) = iC D d' ((dY es s').getD (zv D d')):=by rw [mR]; cases dY es s' <;> rfl
     have hs:(dY (es.map fun p=>(p.1,iC D d' p.2)) s').isSome = (dY es s').isSome:=by rw [mR,Option.isSome_map]
     refine ⟨DS (zm hu) hz hx hj hy hr,?_⟩
     have:=zM (P:=P) (E:=E) (n:=n) (dst:=dst) (ty:=ty) (pos:=pos) (after:=after) (g:=g) (zm hu) hz hx hj hy hr
     rw [hs] at this
     exact this
    ·cases h
   ·cases h
  ·next ik d es hk=>
   split at h
   ·next ik' d' hm=>
    split at h
    ·next e=>
     obtain ⟨rfl,rfl⟩:=e
     obtain ⟨s',hs',h1⟩:=aJ h
     cases df hs'
     obtain ⟨kt,et,hu,hz⟩:=B0.mto _ _ _ hm
     refine ⟨_,_,h1,fun {s} hx hy ho=>?_⟩
     have hj:lk s.own k = some (.mp (vo (CP.int ik') (es.map fun p=>(p.1,iC D d' p.2)))):=ho _ _ hk
     have hr:(dY (es.map fun p=>(p.1,iC D d' p.2)) s').getD (iC D d' (zv D d')) = iC D d' ((dY es s').getD (zv D d')):=by rw [mR]; cases dY es s' <;> rfl
     have hs:(dY (es.map fun p=>(p.1,iC D d' p.2)) s').isSome = (dY es s').isSome:=by rw [mR,Option.isSome_map]
     refine ⟨DS (Fg hu) hz hx hj hy hr,?_⟩
     have:=zM (P:=P) (E:=E) (n:=n) (dst:=dst) (ty:=ty) (pos:=pos) (after:=after) (g:=g) (Fg hu) hz hx hj hy hr
     rw [hs] at this
     exact this
    ·cases h
   ·cases h
  ·cases h
 ·cases h
theorem I7 {o:Op} (h:opv B0 L c ev own ty o K = some r):Out P E n s c own ev dst o ty pos after g K r:=by
 unfold opv at h
 split at h
 ·obtain ⟨a,ea,h1⟩:=aJ h
  exact ⟨_,h1,fun {s} _ he _=>cE (he _ _ ea)⟩
 ·obtain ⟨z,hz,h3⟩:=asg_ok h
  exact ⟨z,hz,fun {s} _ he _=>h3 he⟩
 ·obtain ⟨a,ea,h1⟩:=aJ h
  obtain ⟨b,eb,h2⟩:=aJ h1
  obtain ⟨z,hz,h3⟩:=bin_ok h2
  exact ⟨z,hz,fun {s} hc he _=>h3 hc (he _ _ ea) (he _ _ eb)⟩
 ·obtain ⟨a,ea,h1⟩:=aJ h
  obtain ⟨b,eb,h2⟩:=aJ h1
  cases df eb
  exact ⟨_,h2,fun {s} _ he _=>Cd (he _ _ ea)⟩
 ·obtain ⟨a,ea,h1⟩:=aJ h
  split at h1
  ·exact ⟨_,h1,fun {s} _ he _=>op_neg (he _ _ ea)⟩
  ·cases h1
 ·obtain ⟨a,ea,h1⟩:=aJ h
  split at h1
  ·exact ⟨_,h1,fun {s} _ he _=>AZ (he _ _ ea)⟩
  ·exact ⟨_,h1,fun {s} _ he _=>au (he _ _ ea)⟩
  ·exact ⟨_,h1,fun {s} _ he _=>au (he _ _ ea)⟩
  ·cases h1
 ·obtain ⟨a,ea,h1⟩:=aJ h
  obtain ⟨z,hz,h3⟩:=fav_ok h1
  exact ⟨z,hz,fun {s} hc he _=>h3 (he _ _ ea)⟩
 ·obtain ⟨a,ea,h1⟩:=aJ h
  obtain ⟨z,hz,h3⟩:=ldv_ok h1
  exact ⟨z,hz,fun {s} hc he ho=>h3 hc (he _ _ ea) ho⟩
 ·obtain ⟨a,ea,h1⟩:=aJ h
  obtain ⟨z,hz,h3⟩:=fv_ok h1
  exact ⟨z,hz,fun {s} hc he _=>h3 (he _ _ ea)⟩
 ·obtain ⟨⟨d,l⟩,hq,h1⟩:=aJ h
  simp only at h1
  split at h1
  ·next d' m ht=>
   split at h1
   ·next hc0=>
    obtain ⟨rfl,rfl,h1s⟩:=hc0
    obtain ⟨cs,g1,g2,g3⟩:=B0.gso _ _ _ hq
    obtain ⟨e,ht2,_⟩:=B0.tao _ _ _ ht
    refine ⟨_,h1,fun {s} _ _ _=>?_⟩
    show aR P E n _ s (s.put n dst (.b (.one (.sl (sz D d') (l.map (enc D d'))))))
    rw [h1s] at ht2 ⊢
    exact Ai g1 g2 ht2 rfl rfl (fun z=>by rw [ca,h1s]) g3
   ·cases h1
  ·cases h1
 ·obtain ⟨⟨d,l⟩,hq,h1⟩:=aJ h
  simp only at h1
  split at h1
  ·next d' m ht=>
   split at h1
   ·next hc0=>
    obtain ⟨rfl,rfl⟩:=hc0
    obtain ⟨b,hb,h2⟩:=aJ h1
    split at h2
    ·next kk i=>
     obtain ⟨z,hz,h3⟩:=aJ h2
     obtain ⟨cs,g1,g2,g3⟩:=B0.gso _ _ _ hq
     obtain ⟨e,ht2,_⟩:=B0.tao _ _ _ ht
     refine ⟨_,h3,fun {s} hc he _=>?_⟩
     have hz:=fb hz hc
     have hf:=CC (es:=l.map (enc D d')) (k:=i.toNat) (m:=sz D d') (fun q hq=>by obtain ⟨v,_,rfl⟩:=List.mem_map.1 hq; exact ca) (qW hz)
     exact pM g1 g2 ht2 (fa hz) (mO hz) (he _ _ hb) (by rw [List.drop_zero]; exact hf.1)
    ·cases h2
   ·cases h1
  ·cases h1
 ·obtain ⟨a,ea,h1⟩:=aJ h
  obtain ⟨b,eb,h2⟩:=aJ h1
  obtain ⟨z,hz,h3⟩:=idxv_ok h2
  exact ⟨z,hz,fun {s} hc he ho=>h3 hc (he _ _ ea) (he _ _ eb) ho⟩
 ·obtain ⟨a,ea,h1⟩:=aJ h
  obtain ⟨b,eb,h2⟩:=aJ h1
  obtain ⟨z,hz,h3⟩:=idsv_ok h2
  exact ⟨z,hz,fun {s} hc he _=>h3 hc (he _ _ ea) (he _ _ eb)⟩
 ·obtain ⟨a,ea,h1⟩:=aJ h
  obtain ⟨z,hz,h3⟩:=cnv_ok h1
  exact ⟨z,hz,fun {s} hc he _=>h3 (he _ _ ea)⟩
 ·obtain ⟨a,ea,h1⟩:=aJ h
  obtain ⟨z,hz,h3⟩:=slv_ok h1
  exact ⟨z,hz,fun {s} hc he _=>h3 hc he (he _ _ ea)⟩
 ·obtain ⟨d,hd,h1⟩:=aJ h
  split at h1
  ·next d0=>
   split at h1
   ·next hc0=>
    obtain ⟨c1,c2,c3,c4⟩:=hc0
    obtain ⟨l,hl,h2⟩:=aJ h1
    refine ⟨_,h2,fun {s} hc he _=>?_⟩
    obtain ⟨e1,e2⟩:=Fv he hl
    obtain ⟨_,et,bytes,zs,hsl⟩:=B0.tok _ _ hd
    have hu:cb (sz D d0) (l.map (enc D d0)):=fun q hq=>by
     obtain ⟨v,_,rfl⟩:=List.mem_map.1 hq
     exact ca
    exact s4 hsl e1 (tJ (j:=0) (pre:=[]) hu (by simp) (by simp [e2,c1])) hu (by simp [e2,c1]) (Nat.mul_pos c2 c3) c4
   ·cases h1
  ·cases h1
 ·obtain ⟨a,ea,h1⟩:=aJ h
  obtain ⟨b,eb,h2⟩:=aJ h1
  obtain ⟨d,z,hz,h3⟩:=Jf h2
  exact ⟨_,hz,fun {s} _ he ho=>(h3 (he _ _ ea) (he _ _ eb) ho).1⟩
 ·obtain ⟨a,ea,h1⟩:=aJ h
  split at h1
  ·split at h1
   ·next hc=>exact ⟨_,h1,fun {s} _ he _=>wm (B0.cok _ hc) (he _ _ ea)⟩
   ·cases h1
  ·cases h1
 ·obtain ⟨z,hz,h3⟩:=mkf_ok h
  exact ⟨z,hz,fun {s} _ he _=>h3 he⟩
 ·obtain ⟨q,hq,h1⟩:=aJ h
  obtain ⟨v,hv,h2⟩:=aJ h1
  refine ⟨_,h2,fun {s} hc he _=>?_⟩
  obtain ⟨cps,e1,e2⟩:=Hp he hv
  rcases B0.bok _ _ _ hq with hb | ⟨size,hb,hpl⟩
  ·exact u6 hb e1 e2
  ·exact EB hb e1 (BT hpl e2)
 ·obtain ⟨a,ea,h1⟩:=aJ h
  obtain ⟨z,hz,h3⟩:=lenv_ok h1
  exact ⟨z,hz,fun {s} hc he ho=>h3 (he _ _ ea) ho⟩
 ·obtain ⟨a,ea,h1⟩:=aJ h
  obtain ⟨b,eb,h2⟩:=aJ h1
  split at h2
  ·obtain ⟨b,e,h3⟩:=aJ h2
   cases df e
   exact ⟨_,h3,fun {s} _ he _=>op_min (he _ _ ea) (he _ _ eb)⟩
  ·cases h2
 ·obtain ⟨a,ea,h1⟩:=aJ h
  obtain ⟨b,eb,h2⟩:=aJ h1
  split at h2
  ·obtain ⟨b,e,h3⟩:=aJ h2
   cases df e
   exact ⟨_,h3,fun {s} _ he _=>op_max (he _ _ ea) (he _ _ eb)⟩
  ·cases h2
 ·cases h
end
end Go.Dn
namespace Go.Dn
open Go Go.Sk
set_option linter.unusedVariables false
set_option linter.unusedSimpArgs false
set_option linter.unusedSectionVars false
@[reducible] def xL (D:Dt):List (DT D.σ) → Type
 | []=>Unit
 | [d]=>V D d
 | d :: e :: l=>V D d × xL D (e :: l)
def dflT (D:Dt):(l:List (DT D.σ)) → xL D l
 | []=>()
 | [d]=>zv D d
 | d :: e :: l=>(zv D d,dflT D (e :: l))
instance {D:Dt} {l:List (DT D.σ)}:Inhabited (xL D l):=⟨dflT D l⟩
def yz {D:Dt}:(l:List (DT D.σ)) → xL D l → List (T0 D)
 | [],_=>[]
 | [d],v=>[.d d v]
 | d :: e :: l,v=>.d d v.1 :: yz (e :: l) v.2
def zd {D:Dt}:(l:List (DT D.σ)) → xL D l → TS D
 | [d],v=>.n (.d d v)
 | l,v=>.u (yz l v)
section
variable {P:Program} {D:Dt} [DecidableEq D.σ] {TB:aF} (B0:Tb P D TB) (L:Lay D) {R:Type}
def Dr (g:Option (Nat × Bool)) (z:T0 D):TS D:=match g with
 | none=>.n z
 | some g=>.o g z
def Gh (Γ:List GE) (g:Option (Nat × Bool)) (q:Nat × Bool):Bool:=match g with
 | none=>true
 | some g=>!imp Γ g q
def IH (s:bE D) (g:Option (Nat × Bool)) (x y z:Operand) (K:T0 D → Option R):Option R:=match x with
 | .tmp t=>match lk s.sl t with
  | some (.gb i)=>(slot s.Γ g (TS.gb (D:=D) i)).bind fun xb=>(gl .bool xb).bind fun b=>match y,z with
   | .tmp t2,.const (.bool false)=>match lk s.sl t2 with
    | some (.o q (.d .bool v))=>if q = (i,true) ∧ Gh s.Γ g q = true then K (.d .bool (b && v)) else none
    | _=>none
   | .const (.bool true),.tmp t2=>match lk s.sl t2 with
    | some (.o q (.d .bool v))=>if q = (i,false) ∧ Gh s.Γ g q = true then K (.d .bool (b || v)) else none
    | _=>none
   | _,_=>none
  | _=>none
 | _=>none
def opw (s:bE D) (g:Option (Nat × Bool)) (ty:TypeId) (o:Op) (K:TS D → Option R):Option R:=match o with
 | .move (.tmp t)=>(match g,lk s.sl t with
  | none,some (.u l)=>K (.u l)
  | _,_=>opv B0 L (g.map (gv s.Γ)) (s.ev g) s.own ty (.move (.tmp t)) fun z=>K (Dr g z))
 | .lookup t x y true=>(match g with
  | none=>(s.ev none x).bind fun a=>(s.ev none y).bind fun b=>mgt B0 s.own t a b fun d z=>K (.u [.d d (z.getD (zv D d)),.d .bool z.isSome])
  | some _=>none)
 | .pick x y z=>IH s g x y z fun z=>K (Dr g z)
 | .extract (.tmp t) i=>match g,lk s.sl t with
  | none,some (.u l)=>(l[i]?).bind fun z=>K (.n z)
  | _,_=>none
 | o=>opv B0 L (g.map (gv s.Γ)) (s.ev g) s.own ty o fun z=>K (Dr g z)
end
section
variable {P:Program} {D:Dt} [DecidableEq D.σ] {TB:aF} {B0:Tb P D TB} {L:Lay D} {X:Type} {E:Env TB} {n:Sh} {s0:St} {s:bE D} {dst:Option Nat} {t ty yt:TypeId} {pos:String} {after:Array Edge} {g:Option (Nat × Bool)} {x y:Operand} {K:TS D → Option X} {r:X}
structure qu (s:bE D) (s0:St):Prop where
 sl:∀ t z,lk s.sl t = some z → s0.get t = some (z.sv s.Γ)
 own:∀ k c,lk s.own k = some c → lk s0.own k = some c.oc
theorem qu.self (s:bE D):qu s s.st:=⟨fun t z h=>by show lk (od s.Γ s.sl) t = _; rw [yZ,h]; rfl,fun k c h=>by show lk (bq s.own) k = _; rw [oh,h]; rfl⟩
theorem qu.ev (h:qu s s0) {x:Operand} {y:T0 D} (e:s.ev none x = some y):s0.ev x = some (.b y.bv):=by
 cases x with
 | tmp t=>
  obtain ⟨z,e1,e2⟩:=aJ e
  unfold slot at e2
  split at e2
  ·cases e2; exact h.sl _ _ e1
  ·cases e2
  ·split at e2
   ·next b hb=>
    cases e2
    have:=h.sl _ _ e1
    simp only [TS.sv,tv hb] at this
    exact this
   ·cases e2
   ·cases e2
  ·cases e2
 | const v=>exact CF e _
 | func f=>cases e; rfl
 | global g=>cases e
def EU (s:bE D) (g:Nat × Bool):List (Nat × SV):=s.sl.filterMap fun p=>((lk s.sl p.1).bind (slot s.Γ (some g))).map fun x=>(p.1,.b x.bv)
theorem lk_ex {s:bE D} {g:Nat × Bool} {l0:List (Nat × TS D)} {rest:List (Nat × SV)}:∀ {l:List (Nat × TS D)} {t:Nat} {z:TS D} {x:T0 D},lk l t = some z → (lk l0 t).bind (slot s.Γ (some g)) = some x → lk ((l.filterMap fun p=>((lk l0 p.1).bind (slot s.Γ (some g))).map fun x=>(p.1,SV.b x.bv)) ++ rest) t = some (.b x.bv)
 | [],t,z,x,h,_=>by simp [lk] at h
 | (j,y) :: l,t,z,x,h,hx=>by
  by_cases hj:t = j
  ·subst hj
   simp only [List.filterMap_cons,hx,Option.map_some,List.cons_append,lk,beq_self_eq_true,if_true]
  ·have h':lk l t = some z:=by simpa [lk,hj] using h
   have ih:=lk_ex (rest:=rest) h' hx
   simp only [List.filterMap_cons]
   split
   ·exact ih
   ·next q hq=>
    cases hb:(lk l0 j).bind (slot s.Γ (some g)) with
    | none=>rw [hb] at hq; cases hq
    | some w=>
     rw [hb] at hq
     cases hq
     simp only [List.cons_append,lk]
     rw [if_neg (by simpa using hj)]
     exact ih
theorem qu.evG (h:qu s s0) {g:Nat × Bool} {x:Operand} {y:T0 D} (e:s.ev (some g) x = some y):(⟨EU s g ++ s0.slots,s0.own⟩:St).ev x = some (.b y.bv):=by
 cases x with
 | tmp t=>
  obtain ⟨z,e1,e2⟩:=aJ e
  exact lk_ex (l0:=s.sl) e1 (by rw [e1]; exact e2)
 | const v=>exact CF e _
 | func f=>cases e; rfl
 | global g=>cases e
theorem qu.open (h:qu s s0) {g:Nat × Bool} (hg:gv s.Γ g = true) {a:Act} {w:World} (hr:R E n s0 a w):R E n (⟨EU s g ++ s0.slots,s0.own⟩:St) a w:=by
 obtain ⟨h1,h2,hh,ρ,hw,hs⟩:=hr
 refine ⟨h1,h2,hh,ρ,hw,fun k x hx=>?_⟩
 rcases List.mem_append.1 hx with hx | hx
 ·simp only [EU,List.mem_filterMap] at hx
  obtain ⟨p,hp,hq⟩:=hx
  obtain ⟨z,hz,e⟩:=Option.map_eq_some_iff.1 hq
  cases e
  obtain ⟨y,e1,e2⟩:=aJ hz
  obtain ⟨v,hv,hrel⟩:=hs _ _ (bh (show lk s0.slots p.1 = _ from h.sl _ _ e1))
  refine ⟨v,hv,?_⟩
  have:=(J3 (Γ:=s.Γ) (g:=some g) (x:=y) (fun q e=>by cases e; exact hg)).2 hrel
  rw [opn1,e2] at this
  exact this
 ·exact hs k x hx
theorem D4:∀ {Γ:List GE} {i:Nat} {b:Bool} {w:Bool},yO Γ i = some (none,b) → gv Γ (i,w) = sgn w b
 | [],i,b,w,h=>by simp [yO] at h
 | e :: Γ,i,b,w,h=>by
  unfold yO at h
  unfold gv
  split at h
  ·next he=>
   simp only [he,if_true]
   simp only [Option.some.injEq,Prod.mk.injEq,Option.map_eq_none_iff] at h
   rw [h.1,h.2]
  ·next he=>
   simp only [he,if_false]
   exact D4 h
def HD (P:Program) {TB:aF} (E:Env TB) (n:Sh) (s:bE D) (s0:St) (g:Option (Nat × Bool)) (o:Oper) (z:TS D):Prop:=match g with
 | none=>aR P E n o s0 (s0.put n o.dst (z.sv s.Γ))
 | some q=>∃ x,z = .o q x ∧ (gv s.Γ q = true → aR P E n o ⟨EU s q ++ s0.slots,s0.own⟩ (St.put n o.dst (.b x.bv) ⟨EU s q ++ s0.slots,s0.own⟩))
theorem opv_w {o:Op} {g':Option (Nat × Bool)} (h:opv B0 L (g.map (gv s.Γ)) (s.ev g) s.own ty o (fun z=>K (Dr g z)) = some r):∃ z,K z = some r ∧ ∀ {s0:St},qu s s0 → HD P E n s s0 g ⟨dst,o,ty,pos,after,g'⟩ z:=by
 cases g with
 | none=>
  obtain ⟨z,hz,h1⟩:=I7 (P:=P) (E:=E) (n:=n) (s:=s.st) (dst:=dst) (ty:=ty) (pos:=pos) (after:=after) (g:=g') h
  exact ⟨_,hz,fun {s0} ha=>h1 (by simp) (fun x y e=>ha.ev e) ha.own⟩
 | some q=>
  obtain ⟨z,hz,h1⟩:=I7 (P:=P) (E:=E) (n:=n) (s:=s.st) (dst:=dst) (ty:=ty) (pos:=pos) (after:=after) (g:=g') h
  exact ⟨_,hz,fun {s0} ha=>⟨z,rfl,fun hg=>h1 (s:=⟨EU s q ++ s0.slots,s0.own⟩) (by simp [hg]) (fun x y e=>ha.evG e) ha.own⟩⟩
theorem xf:∀ {l:List (DT D.σ)} {v:xL D l} {Γ:List GE},((zd l v).sv Γ).bm [] = true:=by
 intro l v Γ
 have h1:∀ (d:DT D.σ) (v:V D d),(iC D d v).bm [] = true:=fun d v=>by cases d <;> rfl
 have h2:∀ (l:List (DT D.σ)) (v:xL D l),((yz l v).map T0.bv).all (·.bm []) = true:=by
  intro l
  induction l with
  | nil=>intro v; rfl
  | cons d l ih=>
   intro v
   cases l with
   | nil=>simp [yz,T0.bv,h1]
   | cons e l=>simp only [yz,List.map_cons,List.all_cons,Bool.and_eq_true]; exact ⟨h1 _ _,ih _⟩
 match l,v with
 | [],v=>rfl
 | [d],v=>exact h1 _ _
 | d :: e :: l,v=>exact h2 _ v
theorem GR:∀ {l:List (DT D.σ)} {v:xL D l} {Γ:List GE},(zd l v).sv Γ = (zd l v).sv []
 | [],_,_=>rfl
 | [_],_,_=>rfl
 | _ :: _ :: _,_,_=>rfl
theorem Fm:∀ {Γ:List GE} {i:Nat} {c:Option Bool} {b:Bool} {w:Bool},yO Γ i = some (c,b) → gv Γ (i,w) = match c with | none=>sgn w b | some c=>c && sgn w b
 | [],i,c,b,w,h=>by simp [yO] at h
 | e :: Γ,i,c,b,w,h=>by
  unfold yO at h
  unfold gv
  split at h
  ·next he=>
   simp only [he,if_true]
   simp only [Option.some.injEq,Prod.mk.injEq] at h
   obtain ⟨rfl,rfl⟩:=h
   cases e.p <;> rfl
  ·next he=>
   simp only [he,if_false]
   exact Fm h
theorem u9 {g:Nat × Bool} {l0:List (Nat × TS D)} {rest:List (Nat × SV)} {t:Nat} (h:(lk l0 t).bind (slot s.Γ (some g)) = none):∀ {l:List (Nat × TS D)},lk ((l.filterMap fun p=>((lk l0 p.1).bind (slot s.Γ (some g))).map fun x=>(p.1,SV.b x.bv)) ++ rest) t = lk rest t
 | []=>rfl
 | (j,y) :: l=>by
  simp only [List.filterMap_cons]
  split
  ·exact u9 h
  ·next q hq=>
   cases hb:(lk l0 j).bind (slot s.Γ (some g)) with
   | none=>rw [hb] at hq; cases hq
   | some w=>
    rw [hb] at hq
    cases hq
    have hj:¬ t = j:=fun e=>by subst e; rw [h] at hb; cases hb
    simp only [List.cons_append,lk]
    rw [if_neg (by simpa using hj)]
    exact u9 h
theorem yU {i:Nat} {b:Bool} (h:slot s.Γ g (TS.gb (D:=D) i) = some (T0.d (D:=D) .bool b)) (hg:∀ q,g = some q → gv s.Γ q = true) (w:Bool):gv s.Γ (i,w) = sgn w b:=by
 unfold slot at h
 simp only at h
 split at h
 ·next b' hb=>cases h; exact D4 (tv hb)
 ·next q b' hb=>
  split at h
  ·next g'=>
   split at h
   ·next hi=>
    cases h
    have hc:=zn hi (hg _ rfl)
    have:=Fm (w:=w) (tv hb)
    rw [this]
    simp [hc]
   ·cases h
  ·cases h
 ·cases h
theorem deep {t2:Nat} {q:Nat × Bool} {v:T0 D} (ha:qu s s0) (hv:lk s.sl t2 = some (.o q v)) (hn:Gh s.Γ g q = true):(match g with
  | none=>s0
  | some g=>(⟨EU s g ++ s0.slots,s0.own⟩:St)).ev (.tmp t2) = some (.opt (gv s.Γ q) v.bv):=by
 cases g with
 | none=>exact ha.sl _ _ hv
 | some g=>
  have:imp s.Γ g q = false:=by simpa [Gh] using hn
  show lk (EU s g ++ s0.slots) t2 = _
  rw [EU,u9 (l0:=s.sl) (by rw [hv]; simp [slot,this])]
  exact ha.sl _ _ hv
theorem pickv_w {x y z:Operand} {g':Option (Nat × Bool)} (h:IH s g x y z (fun z=>K (Dr g z)) = some r):∃ u,K u = some r ∧ ∀ {s0:St},qu s s0 → HD P E n s s0 g ⟨dst,.pick x y z,ty,pos,after,g'⟩ u:=by
 unfold IH at h
 split at h
 ·next t=>
  split at h
  ·next i hi=>
   obtain ⟨xb,hx,h1⟩:=aJ h
   obtain ⟨b,hb,h2⟩:=aJ h1
   cases df hb
   have hev:s.ev g (.tmp t) = some (.d .bool b):=by show (lk s.sl t).bind (slot s.Γ g) = _; rw [hi]; exact hx
   split at h2
   ·next t2=>
    split at h2
    ·next q v hv=>
     split at h2
     ·next hq=>
      obtain ⟨rfl,hq⟩:=hq
      cases g with
      | none=>exact ⟨_,h2,fun {s0} ha=>have hd:=deep ha hv hq; fJ (gd:=gv s.Γ (i,true)) (fun e=>by rw [yU hx (fun q e=>by cases e)]; exact e) (ha.ev hev) hd rfl⟩
      | some g=>exact ⟨_,h2,fun {s0} ha=>⟨_,rfl,fun hg=>have hd:=deep ha hv hq; fJ (gd:=gv s.Γ (i,true)) (fun e=>by rw [yU hx (fun q e=>by cases e; exact hg)]; exact e) (ha.evG hev) hd rfl⟩⟩
     ·cases h2
    ·cases h2
   ·next t2=>
    split at h2
    ·next q v hv=>
     split at h2
     ·next hq=>
      obtain ⟨rfl,hq⟩:=hq
      cases g with
      | none=>exact ⟨_,h2,fun {s0} ha=>have hd:=deep ha hv hq; ff (gd:=gv s.Γ (i,false)) (fun e=>by rw [yU hx (fun q e=>by cases e),e]; rfl) (ha.ev hev) rfl hd⟩
      | some g=>exact ⟨_,h2,fun {s0} ha=>⟨_,rfl,fun hg=>have hd:=deep ha hv hq; ff (gd:=gv s.Γ (i,false)) (fun e=>by rw [yU hx (fun q e=>by cases e; exact hg),e]; rfl) (ha.evG hev) rfl hd⟩⟩
     ·cases h2
    ·cases h2
   ·cases h2
  ·cases h
 ·cases h
theorem opw_w {o:Op} {g':Option (Nat × Bool)} (h:opw B0 L s g ty o K = some r):∃ z,K z = some r ∧ ∀ {s0:St},qu s s0 → HD P E n s s0 g ⟨dst,o,ty,pos,after,g'⟩ z:=by
 unfold opw at h
 split at h
 ·split at h
  ·next l hl=>exact ⟨_,h,fun {s0} ha=>cE (ha.sl _ _ hl)⟩
  ·exact opv_w h
 ·split at h
  ·obtain ⟨a,ea,h1⟩:=aJ h
   obtain ⟨b,eb,h2⟩:=aJ h1
   obtain ⟨d,z,hz,h3⟩:=Jf (P:=P) (E:=E) (n:=n) (dst:=dst) (ty:=ty) (pos:=pos) (after:=after) (g:=g') h2
   exact ⟨_,hz,fun {s0} ha=>(h3 (ha.ev ea) (ha.ev eb) ha.own).2⟩
  ·cases h
 ·exact pickv_w h
 ·split at h
  ·next l hl=>
   obtain ⟨z,hz,h1⟩:=aJ h
   exact ⟨_,h1,fun {s0} ha=>cI (l:=l.map T0.bv) (ha.sl _ _ hl) (by rw [List.getElem?_map,hz]; rfl)⟩
  ·cases h
 ·exact opv_w h
end
end Go.Dn
namespace Go.Dn
open Go Go.Sk
set_option linter.unusedVariables false
set_option linter.unusedSimpArgs false
set_option linter.unusedSectionVars false
structure PK (D:Dt) where
 T:TypeId
 d:D.σ
 pv:D.T d → Value
 ok:D.T d → Prop
 sp:∀ h v u,(CP.yy T (D.e d v)).rel h u → u = pv v ∧ ok v
inductive AK (D:Dt) where
 | d (t:DT D.σ)
 | k
inductive LK (D:Dt) where
 | b (T:TypeId) (t:DT D.σ)
 | ms (t:DT D.σ) (es:List (Str × V D t))
 | mi (k:IntKind) (t:DT D.σ) (es:List (Int × V D t))
 | r (T:TypeId) (t:DT D.σ)
 | x (T:TypeId) (i:D.σ)
 | cp (T:TypeId)
@[reducible] def Ga {D:Dt}:List (AK D) → List (DT D.σ)
 | []=>[]
 | .d t :: l=>t :: Ga l
 | .k :: l=>Ga l
@[reducible] def wR {D:Dt}:List (LK D) → List (DT D.σ)
 | []=>[]
 | .b _ t :: l=>t :: wR l
 | .ms _ _ :: l=>wR l
 | .mi _ _ _ :: l=>wR l
 | .r _ t :: l=>.sl t :: wR l
 | .x _ i :: l=>.st i :: wR l
 | .cp _ :: l=>wR l
def toH {D:Dt}:(l:List (DT D.σ)) → xL D l → HT D l
 | [],_=>()
 | [d],v=>(v,())
 | d :: e :: l,v=>(v.1,toH (e :: l) v.2)
def BW {D:Dt}:(rs ls:List (DT D.σ)) → xL D (rs ++ ls) → xL D rs × HT D ls
 | [],ls,v=>((),toH ls v)
 | [d],[],v=>(v,())
 | [d],e :: ls,v=>(v.1,toH (e :: ls) v.2)
 | d :: e :: rs,ls,v=>((v.1,(BW (e :: rs) ls v.2).1),(BW (e :: rs) ls v.2).2)
@[reducible] def AQ {D:Dt}:Bool → List (LK D) → List (DT D.σ)
 | true,_=>[]
 | false,ls=>wR ls
@[reducible] def CR {D:Dt} (pk:PK D):Bool → Type → Type
 | true,X=>X ⊕ D.T pk.d
 | false,X=>X
structure bJ (D:Dt) (pk:PK D) where
 f:FuncId
 ar:List (AK D)
 kx:List (T0 D)
 ks:List Nat
 ls:List (LK D)
 rs:List (DT D.σ)
 ro:Bool
 pn:Bool
 dp:Bool
 fo:Bool
 val:HT D (Ga ar) → HT D (wR ls) → Option (CR pk pn (xL D (rs ++ AQ ro ls)))
def F8 (k:Nat):List Nat → Nat
 | []=>k
 | j :: _=>j
def b5 {D:Dt} (fo:Bool):List Nat → (ls:List (LK D)) → HT D (wR ls) → List (Nat × TO D)
 | k :: ks,.b T t :: l,h=>(k,.box T t h.1) :: b5 fo ks l h.2
 | k :: ks,.ms t es :: l,h=>(k,.ms t es) :: b5 fo ks l h
 | k :: ks,.mi ik t es :: l,h=>(k,.mi ik t es) :: b5 fo ks l h
 | k :: ks,.r T t :: l,h=>(k,.row T t h.1) :: b5 fo ks l h.2
 | k :: ks,.x T i :: l,h=>(k,.x T i k (F8 k ks) fo h.1) :: b5 fo ks l h.2
 | k :: ks,.cp T :: l,h=>(k,.cp T (F8 k ks)) :: b5 fo ks l h
 | _,_,_=>[]
def kL {D:Dt}:(l:List (AK D)) → List (T0 D) → HT D (Ga l) → List BV
 | .d t :: l,kx,h=>iC D t h.1 :: kL l kx h.2
 | .k :: l,x :: kx,h=>x.bv :: kL l kx h
 | _,_,_=>[]
def Dc {D:Dt}:List Nat → List (LK D) → List Nat
 | k :: ks,.r _ _ :: l=>k :: Dc ks l
 | _ :: ks,_ :: l=>Dc ks l
 | _,_=>[]
def Ie {D:Dt}:List Nat → List (LK D) → List Nat
 | _ :: ks,.r _ _ :: l=>Ie ks l
 | k :: ks,_ :: l=>k :: Ie ks l
 | _,_=>[]
def E5 {D:Dt}:(ro:Bool) → (ls:List (LK D)) → HT D (wR ls) → HT D (AQ ro ls) → HT D (wR ls)
 | true,_,l,_=>l
 | false,_,_,l=>l
def EZ {D:Dt} {pk:PK D}:{pn:Bool} → {X:Type} → CR pk pn X → X ⊕ D.T pk.d
 | true,_,z=>z
 | false,_,z=>.inl z
def av (P:Program) (TB:aF) {D:Dt} {pk:PK D} (c:bJ D pk):Prop:=dw P c.f ∧ (c.ks.Nodup ∧ c.ks.length = c.ls.length) ∧ ∀ a l r,c.val a l = some r → match EZ r with
 | .inl r=>aG P TB c.f (bq (b5 false c.ks c.ls l)) (kL c.ar c.kx a) (Is (if c.dp = true then [] else bq (b5 c.fo c.ks c.ls (E5 c.ro c.ls l (BW c.rs (AQ c.ro c.ls) r).2))) ((zd c.rs (BW c.rs (AQ c.ro c.ls) r).1).sv []))
 | .inr p=>gJ P TB c.f (bq (b5 false c.ks c.ls l)) (kL c.ar c.kx a) (pk.pv p) (pk.ok p)
def EV (P:Program) (TB:aF) {D:Dt} {pk:PK D}:List (bJ D pk) → Prop
 | []=>True
 | c :: G=>av P TB c ∧ EV P TB G
def IE:CV → CV → Bool
 | .ptr k o,.ptr k' o'=>k == k' && o == o'
 | .row k,.row k'=>k == k'
 | _,_=>false
def zi:List CV → List CV → Bool
 | [],[]=>true
 | a :: l,b :: l'=>IE a b && zi l l'
 | _,_=>false
def IF:BV → BV → Bool
 | .ptr k o,.ptr k' o'=>k == k' && o == o'
 | .row k,.row k'=>k == k'
 | .cD f a b,.cD f' a' b'=>f == f' && (zi a a' && zi b b')
 | _,_=>false
def ID {D:Dt}:T0 D → T0 D → Bool
 | .p x,.p y=>IF x y
 | .fn f,.fn f'=>f == f'
 | _,_=>false
theorem JZ:∀ {a b:CV},IE a b = true → a = b:=by
 intro a b h
 cases a <;> cases b <;> simp_all [IE]
theorem xe:∀ {a b:List CV},zi a b = true → a = b
 | [],[],_=>rfl
 | a :: l,b :: l',h=>by
  simp only [zi,Bool.and_eq_true] at h
  rw [JZ h.1,xe h.2]
 | [],_ :: _,h=>by cases h
 | _ :: _,[],h=>by cases h
theorem J0 {a b:BV} (h:IF a b = true):a = b:=by
 cases a <;> cases b <;> simp only [IF,Bool.and_eq_true,beq_iff_eq] at h <;> first | (obtain ⟨rfl,rfl⟩:=h; rfl) | (subst h; rfl) | (obtain ⟨h1,h2,h3⟩:=h; rw [h1,xe h2,xe h3]) | cases h
theorem JY {D:Dt} {a b:T0 D} (h:ID a b = true):a = b:=by
 cases a <;> cases b <;> simp only [ID,beq_iff_eq] at h <;> first | (rw [J0 h]) | (subst h; rfl) | cases h
def eqd {D:Dt}:(d:DT D.σ) → V D d → V D d → Bool
 | .int _,a,b=>decide ((a:Int) = b)
 | .bool,a,b=>decide ((a:Bool) = b)
 | .str,a,b=>decide ((a:Str) = b)
 | _,_,_=>false
theorem eqd_ok {D:Dt}:∀ {d:DT D.σ} {a b:V D d},eqd d a b = true → a = b:=by
 intro d a b h
 cases d <;> simp only [eqd,decide_eq_true_eq] at h <;> first | exact h | cases h
def eqm {D:Dt} {κ:Type} [DecidableEq κ] (d:DT D.σ):List (κ × V D d) → List (κ × V D d) → Bool
 | [],[]=>true
 | p :: l,q :: l'=>(decide (p.1 = q.1) && eqd d p.2 q.2) && eqm d l l'
 | _,_=>false
theorem Fq {D:Dt} {κ:Type} [DecidableEq κ] {d:DT D.σ}:∀ {l l':List (κ × V D d)},eqm d l l' = true → l = l'
 | [],[],_=>rfl
 | p :: l,q :: l',h=>by
  simp only [eqm,Bool.and_eq_true,decide_eq_true_eq] at h
  obtain ⟨⟨h1,h2⟩,h3⟩:=h
  rw [Fq h3]
  congr 1
  exact Prod.ext h1 (eqd_ok h2)
 | [],_ :: _,h=>by cases h
 | _ :: _,[],h=>by cases h
section
variable {P:Program} {D:Dt} [DecidableEq D.σ] {pk:PK D} {TB:aF} (B0:Tb P D TB) (L:Lay D) {X:Type}
def Hy:(l:List (AK D)) → List (T0 D) → List (T0 D) → Option (HT D (Ga l))
 | [],[],[]=>some ()
 | .d t :: l,kx,x :: xs=>(gl t x).bind fun v=>(Hy l kx xs).bind fun h=>some (v,h)
 | .k :: l,b :: kx,x :: xs=>if ID b x = true then Hy l kx xs else none
 | _,_,_=>none
def Bt:List (bJ D pk) → FuncId → List (T0 D) → Option ((c:bJ D pk) × HT D (Ga c.ar))
 | [],_,_=>none
 | c :: G,f,xs=>if c.f = f then (match Hy c.ar c.kx xs with
  | some a=>some ⟨c,a⟩
  | none=>Bt G f xs) else Bt G f xs
def De (fo:Bool) (own:List (Nat × TO D)):List Nat → (ls:List (LK D)) → Option (HT D (wR ls))
 | [],[]=>some ()
 | k :: ks,.b T t :: l=>match lk own k with
  | some (.box T' t' v)=>if h:T' = T ∧ t' = t then (De fo own ks l).bind fun r=>some (h.2 ▸ v,r) else none
  | _=>none
 | k :: ks,.ms t es :: l=>match lk own k with
  | some (.ms t' es')=>if h:t' = t then (if eqm t (h ▸ es') es = true then De fo own ks l else none) else none
  | _=>none
 | k :: ks,.mi ik t es :: l=>match lk own k with
  | some (.mi ik' t' es')=>if h:t' = t ∧ ik' = ik then (if eqm t (h.1 ▸ es') es = true then De fo own ks l else none) else none
  | _=>none
 | k :: ks,.r T t :: l=>match lk own k with
  | some (.row T' t' v)=>if h:T' = T ∧ t' = t then (De fo own ks l).bind fun r=>some (show List (V D t) from h.2 ▸ v,r) else none
  | _=>none
 | k :: ks,.x T i :: l=>match lk own k with
  | some (.x T' i' k' kr fg v)=>if h:T' = T ∧ i' = i then (if (k' = k ∧ kr = F8 k ks) ∧ fg = fo then (De fo own ks l).bind fun r=>some (show D.T i from h.2 ▸ v,r) else none) else none
  | _=>none
 | k :: ks,.cp T :: l=>match lk own k with
  | some (.cp T' k')=>if T' = T ∧ k' = F8 k ks then De fo own ks l else none
  | _=>none
 | _,_=>none
def Gp (ev:Operand → Option (T0 D)):List Operand → Option (List (T0 D))
 | []=>some []
 | x :: l=>(ev x).bind fun a=>(Gp ev l).bind fun r=>some (a :: r)
def cvA:CV → T0 D
 | .ptr k o=>.p (.ptr k o)
 | .row k=>.p (.row k)
 | .one p=>.p (.one p)
def callee (ev:Operand → Option (T0 D)):Operand → Option (FuncId × List (T0 D) × List (T0 D))
 | .func f=>some (f,[],[])
 | x=>(ev x).bind fun a=>match a with
  | .fn f=>some (f,[],[])
  | .p (.cD f fs cs)=>some (f,fs.map cvA,cs.map cvA)
  | _=>none
structure Ef (D:Dt) where
 z:Option (TS D)
 st:List (Nat × TO D):=[]
 nw:List Nat:=[]
 nd:Bool:=false
 nr:List Nat:=[]
 dl:List Nat:=[]
def p7 {α:Type}:List Nat → List (Nat × α) → List (Nat × α)
 | [],own=>own
 | k :: ks,own=>p7 ks (del k own)
noncomputable def Ef.ap (n:Sh) (Γ:List GE) (dst:Option Nat) (e:Ef D) (s0:St):St:=match e.z with
 | some z=>(⟨iq (e.nr ++ e.nw) s0.slots,p7 e.dl (bL (bq e.st) s0.own)⟩:St).put n dst (z.sv Γ)
 | none=>⟨iq (e.nr ++ e.nw) s0.slots,p7 e.dl (bL (bq e.st) s0.own)⟩
def crE:{pn:Bool} → {Y:Type} → CR pk pn Y → (Y → Option X) → (D.T pk.d → Option X) → Option X
 | true,_,z,K,W=>bC W K z
 | false,_,z,K,_=>K z
def wst (fo:Bool) (ks:List Nat):(ro:Bool) → (ls:List (LK D)) → HT D (AQ ro ls) → List (Nat × TO D)
 | true,_,_=>[]
 | false,ls,l=>b5 fo ks ls l
def surv (own:List (Nat × TO D)) (ks:List Nat):List (Nat × TO D):=(own.map (·.1)).filterMap fun k=>if ks.contains k then none else (lk own k).map fun c=>(k,c)
def Gc (s:bE D) (ks:List Nat):bE D:=⟨(s.sl.map (·.1)).filterMap fun t=>match lk s.sl t with
 | some (.n x)=>some (t,.n x)
 | _=>none,surv s.own ks,[]⟩
def Gs (G:List (bJ D pk)) (s:bE D) (g:Option (Nat × Bool)) (x:Operand) (xs:List Operand) (K:Ef D → Option X) (W:D.T pk.d → bE D → Option X):Option X :=
 (callee (s.ev g) x).bind fun q=>(Gp (s.ev g) xs).bind fun zs=>(Bt G q.1 (q.2.1 ++ zs ++ q.2.2)).bind fun c=>(De false s.own c.1.ks c.1.ls).bind fun l=>if (Dc c.1.ks c.1.ls).isEmpty = false ∧ (c.1.ro = true ∧ c.1.dp = false ∨ g.isSome = true) ∨ (c.1.ro = true ∧ c.1.fo = true) then none else match g with
  | none=>(c.1.val c.2 l).bind fun r=>crE r (fun r=>K { z:=some (zd c.1.rs (BW c.1.rs (AQ c.1.ro c.1.ls) r).1),st:=if c.1.dp = true then [] else wst c.1.fo c.1.ks c.1.ro c.1.ls (BW c.1.rs (AQ c.1.ro c.1.ls) r).2,nd:=c.1.ro,nr:=if c.1.dp = true then [] else Dc c.1.ks c.1.ls,dl:=if c.1.dp = true then c.1.ks else [] }) (fun p=>W p (Gc s c.1.ks))
  | some g=>match c with
   | ⟨⟨_,_,_,_,ls,[d],true,false,false,false,val⟩,a⟩=>(AS (some (gv s.Γ g)) (val a l)).bind fun r=>K { z:=some (.o g (.d d r)),nd:=true }
   | _=>none
end
end Go.Dn
namespace Go.Dn
open Go Go.Sk
set_option linter.unusedVariables false
set_option linter.unusedSimpArgs false
set_option linter.unusedSectionVars false
section
variable {P:Program} {D:Dt} [DecidableEq D.σ] {pk:PK D} {TB:aF} {B0:Tb P D TB} {L:Lay D} {X:Type} {E:Env TB} {n:Sh} {s0:St} {s:bE D} {dst:Option Nat} {ty:TypeId} {pos:String} {after:Array Edge} {g:Option (Nat × Bool)} {x:Operand} {K:Ef D → Option X} {W:D.T pk.d → Option X} {r:X} {G:List (bJ D pk)}
theorem CD:∀ {l:List (AK D)} {kx xs:List (T0 D)} {a:HT D (Ga l)},Hy l kx xs = some a → xs.map T0.bv = kL l kx a
 | [],[],[],a,h=>rfl
 | .d t :: l,kx,x :: xs,a,h=>by
  obtain ⟨v,ev',h1⟩:=aJ h
  obtain ⟨w,ew,h2⟩:=aJ h1
  cases h2
  cases df ev'
  simp only [List.map_cons,kL,CD ew]
  rfl
 | .k :: l,b :: kx,x :: xs,a,h=>by
  unfold Hy at h
  split at h
  ·next e=>
   rw [← JY e]
   simp only [List.map_cons,kL,CD h]
  ·cases h
 | [],_ :: _,_,_,h=>by cases h
 | [],[],_ :: _,_,h=>by cases h
 | .d _ :: _,_,[],_,h=>by cases h
 | .k :: _,[],_,_,h=>by cases h
 | .k :: _,_ :: _,[],_,h=>by cases h
theorem z7:∀ {G:List (bJ D pk)} {f:FuncId} {xs:List (T0 D)} {c:bJ D pk} {a:HT D (Ga c.ar)},EV P TB G → Bt G f xs = some ⟨c,a⟩ → c.f = f ∧ av P TB c ∧ Hy c.ar c.kx xs = some a
 | [],f,xs,c,a,_,h=>by simp [Bt] at h
 | c0 :: G,f,xs,c,a,hG,h=>by
  unfold Bt at h
  split at h
  ·next e=>
   split at h
   ·next a' ha=>cases h; exact ⟨e,hG.1,ha⟩
   ·exact z7 hG.2 h
  ·exact z7 hG.2 h
theorem qY {fo:Bool} {own:List (Nat × TO D)}:∀ {ks:List Nat} {ls:List (LK D)} {l:HT D (wR ls)},De fo own ks ls = some l → ∀ p ∈ b5 fo ks ls l,lk own p.1 = some p.2
 | [],[],l,h=>by intro p hp; cases hp
 | k :: ks,.b T t :: ls,l,h=>by
  unfold De at h
  split at h
  ·next T' t' v hv=>
   split at h
   ·next e=>
    obtain ⟨r',hr,h1⟩:=aJ h
    cases h1
    obtain ⟨rfl,rfl⟩:=e
    intro p hp
    rcases List.mem_cons.1 hp with e | e
    ·subst e; exact hv
    ·exact qY hr p e
   ·cases h
  ·cases h
 | k :: ks,.ms t es :: ls,l,h=>by
  unfold De at h
  split at h
  ·next t' es' hv=>
   split at h
   ·next e=>
    subst e
    split at h
    ·next e2=>
     have e2:=Fq e2
     intro p hp
     rcases List.mem_cons.1 hp with e | e
     ·subst e; rw [hv]; exact congrArg (fun z=>some (TO.ms t' z)) e2
     ·exact qY h p e
    ·cases h
   ·cases h
  ·cases h
 | k :: ks,.mi ik t es :: ls,l,h=>by
  unfold De at h
  split at h
  ·next ik' t' es' hv=>
   split at h
   ·next e=>
    obtain ⟨e,e3⟩:=e
    subst e e3
    split at h
    ·next e2=>
     have e2:=Fq e2
     intro p hp
     rcases List.mem_cons.1 hp with e | e
     ·subst e; rw [hv]; exact congrArg (fun z=>some (TO.mi ik' t' z)) e2
     ·exact qY h p e
    ·cases h
   ·cases h
  ·cases h
 | k :: ks,.r T t :: ls,l,h=>by
  unfold De at h
  split at h
  ·next T' t' v hv=>
   split at h
   ·next e=>
    obtain ⟨r',hr,h1⟩:=aJ h
    cases h1
    obtain ⟨rfl,rfl⟩:=e
    intro p hp
    rcases List.mem_cons.1 hp with e | e
    ·subst e; exact hv
    ·exact qY hr p e
   ·cases h
  ·cases h
 | k :: ks,.x T i :: ls,l,h=>by
  unfold De at h
  split at h
  ·next T' i' k' kr fg v hv=>
   split at h
   ·next e=>
    split at h
    ·next e2=>
     obtain ⟨r',hr,h1⟩:=aJ h
     cases h1
     obtain ⟨rfl,rfl⟩:=e
     obtain ⟨⟨rfl,rfl⟩,rfl⟩:=e2
     intro p hp
     rcases List.mem_cons.1 hp with e | e
     ·subst e; exact hv
     ·exact qY hr p e
    ·cases h
   ·cases h
  ·cases h
 | k :: ks,.cp T :: ls,l,h=>by
  unfold De at h
  split at h
  ·next T' k' hv=>
   split at h
   ·next e=>
    obtain ⟨rfl,rfl⟩:=e
    intro p hp
    rcases List.mem_cons.1 hp with e | e
    ·subst e; exact hv
    ·exact qY h p e
   ·cases h
  ·cases h
 | [],_ :: _,_,h=>by cases h
 | _ :: _,[],_,h=>by cases h
theorem dj {fo:Bool}:∀ {ks:List Nat} {ls:List (LK D)} {l:HT D (wR ls)},ks.length = ls.length → ai (bq (b5 fo ks ls l)) = ks
 | [],[],_,_=>rfl
 | k :: ks,q :: ls,l,h=>by
  have hl:ks.length = ls.length:=by simpa using h
  cases q with
  | b T t=>
   have:=dj (fo:=fo) (l:=l.2) hl
   simp only [ai,bq,b5,List.map_cons,List.map_map] at this ⊢
   rw [this]
  | ms t es=>
   have:=dj (fo:=fo) (ls:=ls) (l:=l) hl
   simp only [ai,bq,b5,List.map_cons,List.map_map] at this ⊢
   rw [this]
  | mi ik t es=>
   have:=dj (fo:=fo) (ls:=ls) (l:=l) hl
   simp only [ai,bq,b5,List.map_cons,List.map_map] at this ⊢
   rw [this]
  | r T t=>
   have:=dj (fo:=fo) (l:=l.2) hl
   simp only [ai,bq,b5,List.map_cons,List.map_map] at this ⊢
   rw [this]
  | x T i=>
   have:=dj (fo:=fo) (l:=l.2) hl
   simp only [ai,bq,b5,List.map_cons,List.map_map] at this ⊢
   rw [this]
  | cp T=>
   have:=dj (fo:=fo) (ls:=ls) (l:=l) hl
   simp only [ai,bq,b5,List.map_cons,List.map_map] at this ⊢
   rw [this]
 | [],_ :: _,_,h=>by cases h
 | _ :: _,[],_,h=>by cases h
def IK:TO D → Bool
 | .raw _=>false
 | _=>true
def isRow:TO D → Bool
 | .row _ _ _=>true
 | _=>false
theorem qV {fo:Bool}:∀ {ks:List Nat} {ls:List (LK D)} {l:HT D (wR ls)} {p:Nat × TO D},p ∈ b5 fo ks ls l → IK p.2 = true
 | k :: ks,.b T t :: ls,l,p,h=>by
  rcases List.mem_cons.1 h with e | e
  ·subst e; rfl
  ·exact qV (ks:=ks) (ls:=ls) (l:=l.2) e
 | k :: ks,.ms t es :: ls,l,p,h=>by
  rcases List.mem_cons.1 h with e | e
  ·subst e; rfl
  ·exact qV (ks:=ks) (ls:=ls) (l:=l) e
 | k :: ks,.mi ik t es :: ls,l,p,h=>by
  rcases List.mem_cons.1 h with e | e
  ·subst e; rfl
  ·exact qV (ks:=ks) (ls:=ls) (l:=l) e
 | k :: ks,.r T t :: ls,l,p,h=>by
  rcases List.mem_cons.1 h with e | e
  ·subst e; rfl
  ·exact qV (ks:=ks) (ls:=ls) (l:=l.2) e
 | k :: ks,.x T i :: ls,l,p,h=>by
  rcases List.mem_cons.1 h with e | e
  ·subst e; rfl
  ·exact qV (ks:=ks) (ls:=ls) (l:=l.2) e
 | k :: ks,.cp T :: ls,l,p,h=>by
  rcases List.mem_cons.1 h with e | e
  ·subst e; rfl
  ·exact qV (ks:=ks) (ls:=ls) (l:=l) e
 | [],_,_,p,h=>by cases h
 | _ :: _,[],_,p,h=>by cases h
theorem Ay {own:List (Nat × OC)} {d:DT D.σ} {v:V D d}:(iC D d v).bm own = true:=by cases d <;> rfl
theorem Aa {own:List (Nat × OC)} {k kr:Nat} {fg:Bool} (h1:k ∈ ai own) (h2:kr ∈ ai own):∀ {l:List XC} {ps:List CP},(kW k kr fg l ps).all (·.bm own) = true
 | [],_=>rfl
 | _ :: _,[]=>rfl
 | x :: l,p :: ps=>by
  simp only [kW,List.all_cons,Bool.and_eq_true]
  refine ⟨?_,Aa h1 h2⟩
  cases x with
  | c=>rfl
  | sp=>
   simp only [iE]
   split
   ·exact dy.2 h1
   ·rfl
  | r=>
   simp only [iE]
   split
   ·rfl
   ·exact dy.2 h2
theorem D2 {c:TO D} (h:IK c = true):c.oc.plain = true ∧ c.oc.vt = !isRow c:=by
 cases c with
 | raw c=>cases h
 | _=>exact ⟨rfl,rfl⟩
theorem Cy {k:Nat} {ks:List Nat}:F8 k ks ∈ k :: ks:=by cases ks <;> simp [F8]
theorem q8 {fo:Bool} {own:List (Nat × OC)}:∀ {ks:List Nat} {ls:List (LK D)} {l:HT D (wR ls)},(∀ k ∈ ks,k ∈ ai own) → ∀ p ∈ b5 fo ks ls l,p.2.oc.bm own = true
 | k :: ks,.b T t :: ls,l,hk,p,h=>by
  rcases List.mem_cons.1 h with e | e
  ·subst e; rfl
  ·exact q8 (ks:=ks) (ls:=ls) (l:=l.2) (fun j hj=>hk j (List.mem_cons_of_mem _ hj)) p e
 | k :: ks,.ms t es :: ls,l,hk,p,h=>by
  rcases List.mem_cons.1 h with e | e
  ·subst e; show ((vo CP.str _).all fun p=>p.2.bm own) = true; simp [vo,Ay]
  ·exact q8 (ks:=ks) (ls:=ls) (l:=l) (fun j hj=>hk j (List.mem_cons_of_mem _ hj)) p e
 | k :: ks,.mi ik t es :: ls,l,hk,p,h=>by
  rcases List.mem_cons.1 h with e | e
  ·subst e; show ((vo (CP.int ik) _).all fun p=>p.2.bm own) = true; simp [vo,Ay]
  ·exact q8 (ks:=ks) (ls:=ls) (l:=l) (fun j hj=>hk j (List.mem_cons_of_mem _ hj)) p e
 | k :: ks,.r T t :: ls,l,hk,p,h=>by
  rcases List.mem_cons.1 h with e | e
  ·subst e; rfl
  ·exact q8 (ks:=ks) (ls:=ls) (l:=l.2) (fun j hj=>hk j (List.mem_cons_of_mem _ hj)) p e
 | k :: ks,.x T i :: ls,l,hk,p,h=>by
  rcases List.mem_cons.1 h with e | e
  ·subst e; exact Aa (hk _ List.mem_cons_self) (hk _ Cy)
  ·exact q8 (ks:=ks) (ls:=ls) (l:=l.2) (fun j hj=>hk j (List.mem_cons_of_mem _ hj)) p e
 | k :: ks,.cp T :: ls,l,hk,p,h=>by
  rcases List.mem_cons.1 h with e | e
  ·subst e
   show ([BV.ptr (F8 k ks) 0].all (·.bm own)) = true
   simp only [List.all_cons,List.all_nil,Bool.and_true,BV.bm]
   exact dy.2 (hk _ Cy)
  ·exact q8 (ks:=ks) (ls:=ls) (l:=l) (fun j hj=>hk j (List.mem_cons_of_mem _ hj)) p e
 | [],_,_,_,p,h=>by cases h
 | _ :: _,[],_,_,p,h=>by cases h
theorem js {fo:Bool}:∀ {ks:List Nat} {ls:List (LK D)} {l:HT D (wR ls)},aq (bq (b5 fo ks ls l)) = Ie ks ls
 | k :: ks,.b T t :: ls,l=>congrArg (k :: ·) (js (ks:=ks) (ls:=ls) (l:=l.2))
 | k :: ks,.ms t es :: ls,l=>congrArg (k :: ·) (js (ks:=ks) (ls:=ls) (l:=l))
 | k :: ks,.mi ik t es :: ls,l=>congrArg (k :: ·) (js (ks:=ks) (ls:=ls) (l:=l))
 | k :: ks,.r T t :: ls,l=>js (ks:=ks) (ls:=ls) (l:=l.2)
 | k :: ks,.x T i :: ls,l=>congrArg (k :: ·) (js (ks:=ks) (ls:=ls) (l:=l.2))
 | k :: ks,.cp T :: ls,l=>congrArg (k :: ·) (js (ks:=ks) (ls:=ls) (l:=l))
 | [],[],_=>rfl
 | [],_ :: _,_=>rfl
 | _ :: _,[],_=>rfl
theorem FX {fo:Bool} {ks:List Nat} {ls:List (LK D)} {l:HT D (wR ls)} (hl:ks.length = ls.length) {p:Nat × OC} (h:p ∈ bq (b5 fo ks ls l)):p.2.plain = true ∧ p.2.bm (bq (b5 fo ks ls l)) = true:=by
 obtain ⟨q,hq,e⟩:=List.mem_map.1 h
 subst e
 exact ⟨(D2 (qV hq)).1,q8 (fun k hk=>by rw [dj hl]; exact hk) q hq⟩
theorem G1:∀ {ks:List Nat} {ls:List (LK D)},ks.length = ls.length → ∀ k ∈ ks,k ∈ Ie ks ls ∨ k ∈ Dc ks ls
 | j :: ks,q :: ls,h,k,hk=>by
  have hl:ks.length = ls.length:=by simpa using h
  rcases List.mem_cons.1 hk with e | e
  ·subst e
   cases q with
   | r T t=>exact .inr List.mem_cons_self
   | _=>exact .inl List.mem_cons_self
  ·rcases G1 hl k e with h1 | h1
   ·refine .inl ?_
    cases q with
    | r T t=>exact h1
    | _=>exact List.mem_cons_of_mem _ h1
   ·refine .inr ?_
    cases q with
    | r T t=>exact List.mem_cons_of_mem _ h1
    | _=>exact h1
 | [],_,_,k,hk=>by cases hk
theorem BL {own0:List (Nat × OC)}:∀ {l:List (Nat × OC)},(∀ p ∈ l,lk own0 p.1 = some p.2 ∧ p.2.plain = true) → fE own0 l
 | [],h=>trivial
 | p :: l,h=>by
  obtain ⟨h1,h2⟩:=h p List.mem_cons_self
  refine ⟨?_,BL fun q hq=>h q (List.mem_cons_of_mem _ hq)⟩
  simp only [lkP,h1,Option.bind_some,OC.lend,h2]
theorem Au {q:Nat × SV}:∀ {ks:List Nat} {l:List (Nat × SV)},q ∈ iq ks l → q ∈ l ∧ ∀ k ∈ ks,q.2.bd k = false
 | [],_,h=>⟨h,fun k hk=>by cases hk⟩
 | k :: ks,l,h=>by
  obtain ⟨h1,h2⟩:=Au (ks:=ks) h
  obtain ⟨h3,h4⟩:=fF h1
  refine ⟨h3,fun j hj=>?_⟩
  rcases List.mem_cons.1 hj with e | e
  ·subst e; exact h4
  ·exact h2 j e
theorem tH {ks:List Nat} {ls:List (LK D)} {l:HT D (wR ls)} {own:List (Nat × TO D)} {own0:List (Nat × OC)} (h:De false own ks ls = some l) (ho:∀ k c,lk own k = some c → lk own0 k = some c.oc):fE own0 (bq (b5 false ks ls l)):=by
 refine BL fun p hp=>?_
 obtain ⟨q,hq,e⟩:=List.mem_map.1 hp
 subst e
 exact ⟨ho _ _ (qY h q hq),(D2 (qV hq)).1⟩
theorem DV {n:Sh} {oa:List (Nat × OC)}:∀ {l:List (Nat × OC)},(∀ k ∈ ai l,k ∈ aq oa ∨ n.fix.contains k = false) → gD n oa l = true
 | [],h=>rfl
 | p :: l,h=>by
  have h2:gD n oa l = true:=DV (l:=l) fun k hk=>h k (by simp only [ai,List.map_cons,List.mem_cons]; exact .inr hk)
  rcases h p.1 (by simp [ai]) with this | this
  ·simp only [gD,rm.2 this,h2,Bool.true_or,Bool.and_self]
  ·simp only [gD,this,h2,Bool.not_false,Bool.or_true,Bool.and_self]
theorem BU {f:FuncId} {pre post zs:List (T0 D)} {xs:List Operand} {ats:Array TypeId} {ev:Operand → Option (T0 D)} (he:∀ x y,ev x = some y → s0.ev x = some (.b y.bv)) (hf:dw P f) (hc:callee ev x = some (f,pre,post)) (hz:Gp ev xs = some zs) {a:Act} {w:World} {h:PH} {ρ:RM} (hw:WR E n s0.own h ρ w) (hs:bp h ρ s0.slots a.tmps) :
  ∃ vals:List Value,(execOp a.eval ⟨dst,.call ⟨.value x,⟨xs⟩,ats⟩,ty,pos,after,g⟩).run P w = .ok (.enter f vals.toArray) w ∧ aQ (fun (x:BV) v=>x.rel h ρ v) ((pre ++ zs ++ post).map T0.bv) vals:=by
 have hargs:∀ {xs:List Operand} {zs:List (T0 D)},Gp ev xs = some zs → aQ (fun (x:BV) v=>x.rel h ρ v) (zs.map T0.bv) (xs.map a.eval):=by
  intro xs
  induction xs with
  | nil=>intro zs e; cases e; exact .nil
  | cons x xs ih=>
   intro zs e
   obtain ⟨y,hy,h1⟩:=aJ e
   obtain ⟨ys,hys,h2⟩:=aJ h1
   cases h2
   exact .cons (aC hs (he _ _ hy)) (ih hys)
 have hA:=hargs hz
 have key:∀ y,ev x = some y → (match y with
  | .fn f=>some (f,[],[])
  | .p (.cD f fs cs)=>some (f,fs.map cvA,cs.map cvA)
  | _=>none:Option (FuncId × List (T0 D) × List (T0 D))) = some (f,pre,post) → ∃ vals:List Value,(execOp a.eval ⟨dst,.call ⟨.value x,⟨xs⟩,ats⟩,ty,pos,after,g⟩).run P w = .ok (.enter f vals.toArray) w ∧ aQ (fun (x:BV) v=>x.rel h ρ v) ((pre ++ zs ++ post).map T0.bv) vals:=by
  intro y hy hm
  have hx:=he _ _ hy
  have e1:execOp a.eval ⟨dst,.call ⟨.value x,⟨xs⟩,ats⟩,ty,pos,after,g⟩ = (do let d ← Deferred.ofValue (a.eval x) (Array.map a.eval ⟨xs⟩); invoke d.target d.args):=rfl
  split at hm
  ·cases hm
   have hv:=(aC hs hx:(CP.raw _).rel h _).1
   refine ⟨xs.map a.eval,rB hf a w hv,?_⟩
   simpa using hA
  ·next f' fs cs=>
   cases hm
   obtain ⟨va,vb,hv,h1,h2⟩:=(aC hs hx:BV.rel h ρ (.cD f fs cs) _)
   have hcv:∀ {l:List CV} {vs:List Value},aQ (fun (x:CV) u=>x.rel h ρ u) l vs → aQ (fun (x:BV) v=>x.rel h ρ v) ((l.map (cvA (D:=D))).map T0.bv) vs:=by
    intro l vs hl
    induction hl with
    | nil=>exact .nil
    | cons h1 h2 ih=>
     refine .cons ?_ ih
     rename_i c _ _ _
     cases c <;> exact h1
   refine ⟨va.toList ++ xs.map a.eval ++ vb.toList,?_,?_⟩
   ·rw [e1,hv]
    have e2:(do let d ← Deferred.ofValue (.func (.func f) va vb) (Array.map a.eval ⟨xs⟩); invoke d.target d.args:Sem Next) = callFunc f (va ++ Array.map a.eval ⟨xs⟩ ++ vb):=rfl
    rw [e2,hf.run]
    congr 2
    apply Array.ext'
    simp
   ·rw [List.map_append,List.map_append]
    exact kP (kP (hcv h1) hA) (hcv h2)
  ·cases hm
 cases x with
 | func f'=>
  cases hc
  refine ⟨xs.map a.eval,qB hf a w,?_⟩
  simpa using hA
 | tmp t=>obtain ⟨y,hy,h1⟩:=aJ hc; exact key y hy h1
 | const v=>obtain ⟨y,hy,h1⟩:=aJ hc; exact key y hy h1
 | global q=>obtain ⟨y,hy,h1⟩:=aJ hc; exact key y hy h1
theorem sI {α:Type} {k:Nat} {c:α}:∀ {l:List (Nat × α)},(k,c) ∈ ins k c l
 | []=>List.mem_cons_self
 | (j,x) :: l=>by
  unfold ins
  split
  ·exact List.mem_cons_self
  ·exact List.mem_cons_of_mem _ sI
theorem rl:∀ {l own:List (Nat × OC)} {p:Nat × OC},p ∈ own → p.1 ∉ ai l → p ∈ bL l own
 | [],own,p,h,_=>h
 | q :: l,own,p,h,hk=>by
  simp only [ai,List.map_cons,List.mem_cons,not_or] at hk
  exact rl (l:=l) (gN h hk.1) hk.2
theorem xu:∀ {l own:List (Nat × OC)} {p:Nat × OC},(ai l).Nodup → p ∈ l → p ∈ bL l own
 | q :: l,own,p,hn,h=>by
  simp only [ai,List.map_cons,List.nodup_cons] at hn
  rcases List.mem_cons.1 h with e | e
  ·subst e; exact rl (l:=l) sI hn.1
  ·exact xu (l:=l) hn.2 e
theorem ve:∀ {l own:List (Nat × OC)} {p:Nat × OC},p ∈ own → p.1 ∉ ai l → p ∈ dv l own
 | [],own,p,h,_=>h
 | q :: l,own,p,h,hk=>by
  simp only [ai,List.map_cons,List.mem_cons,not_or] at hk
  exact ve (l:=l) (cV h hk.1) hk.2
theorem pP {oa:List (Nat × OC)}:∀ {l:List (Nat × OC)} {sl:List (Nat × SV)} {q:Nat × SV},(∀ k ∈ ai l,k ∈ aq oa ∨ q.2.bd k = false) → q ∈ sl → q ∈ jm oa l sl
 | [],sl,q,_,h=>h
 | p :: l,sl,q,hk,h=>by
  have hr:=fun k hk'=>hk k (show k ∈ ai (p :: l) by simp only [ai,List.map_cons,List.mem_cons]; exact .inr hk')
  unfold jm
  rcases hk p.1 (by simp [ai]) with this | this
  ·rw [if_pos (rm.2 this)]
   exact pP (l:=l) hr h
  ·split
   ·exact pP (l:=l) hr h
   ·exact pP (l:=l) hr (jz this h)
theorem rP {st st':St} {a:Act} {w:World} (h1:∀ p,p ∈ st'.slots → p ∈ st.slots) (h2:∀ p,p ∈ st'.own → p ∈ st.own) (hr:R E n st a w):R E n st' a w:=by
 obtain ⟨e1,e2,hh,ρ,hw,hs⟩:=hr
 exact ⟨e1,e2,hh,ρ,hw.sub h2,fun k x hx=>hs k x (h1 _ hx)⟩
theorem zL {st st':St} {dst:Option Nat} {x:SV} (h1:∀ p,p ∈ st'.slots → p ∈ st.slots) (h2:∀ p,p ∈ st'.own → p ∈ st.own):(∀ p,p ∈ (st'.put n dst x).slots → p ∈ (st.put n dst x).slots) ∧ ∀ p,p ∈ (st'.put n dst x).own → p ∈ (st.put n dst x).own:=by
 cases dst with
 | none=>exact ⟨h1,h2⟩
 | some d=>
  simp only [St.put,St.set]
  split
  ·refine ⟨fun p hp=>?_,h2⟩
   rcases List.mem_cons.1 hp with e | e
   ·subst e; exact List.mem_cons_self
   ·exact List.mem_cons_of_mem _ (cV (h1 _ (b9 e).1) (b9 e).2)
  ·exact ⟨h1,h2⟩
theorem aR.less {o:Oper} {s s' s'':St} (h:aR P E n o s s') (h1:∀ p,p ∈ s''.slots → p ∈ s'.slots) (h2:∀ p,p ∈ s''.own → p ∈ s'.own):aR P E n o s s'':=fun a w hr next Q hn=>h a w hr next Q fun a' w' hr'=>hn a' w' (rP h1 h2 hr')
def IB (P:Program) {TB:aF} (E:Env TB) (n:Sh) (s:bE D) (s0:St) (g:Option (Nat × Bool)) (o:Oper) (e:Ef D):Prop:=match g with
 | none=>aR P E n o s0 (e.ap n s.Γ o.dst s0)
 | some q=>∃ x nd,e = { z:=some (.o q x),nd:=nd } ∧ (gv s.Γ q = true → aR P E n o ⟨EU s q ++ s0.slots,s0.own⟩ (St.put n o.dst (.b x.bv) ⟨EU s q ++ s0.slots,s0.own⟩))
def HE (n:Sh) (s0:St) (e:Ef D):Prop:=((∀ k ∈ e.nw,di k s0.own = true ∧ n.fix.contains k = false) ∧ ∀ k ∈ e.nr,n.fix.contains k = false ∧ ∀ p ∈ s0.own,p.1 ∉ e.st.map (·.1) → p.2.bd k = false) ∧ (e.nd = true → (ai s0.own).Nodup)
def PanE (P:Program) {TB:aF} (E:Env TB) (n:Sh) (s0:St) (o:Oper) (pk:PK D) (p:D.T pk.d) (ow:bE D):Prop:=∀ a w,R E n s0 a w → ∀ (next:Act → World → Prop) (Q:bF),(pk.ok p → Fin E n (.panic (Df (pk.pv p))) ow.st Q) → o.wp P a w next Q
theorem crE_ok {pn:Bool} {Y:Type} {z:CR pk pn Y} {K:Y → Option X} {W:D.T pk.d → Option X} (h:crE z K W = some r):(∃ y,EZ z = .inl y ∧ K y = some r) ∨ ∃ p,EZ z = .inr p ∧ W p = some r:=by
 cases pn with
 | false=>exact .inl ⟨z,rfl,h⟩
 | true=>
  cases z with
  | inl y=>exact .inl ⟨y,rfl,h⟩
  | inr p=>exact .inr ⟨p,rfl,h⟩
theorem FZ {x:SV} (hx:x.bm [] = true) {own:List (Nat × OC)}:x.bm own = true:=by
  have h1:∀ {l:List CV},(l.all (·.bm [])) = true → (l.all (·.bm own)) = true:=by
   intro l hl
   rw [List.all_eq_true] at hl ⊢
   intro c hc
   have:=hl c hc
   cases c <;> simp_all [CV.bm,k9]
  have h2:∀ {b:BV},b.bm [] = true → b.bm own = true:=by
   intro b hb
   cases b <;> simp_all [BV.bm,k9]
   all_goals (first | exact ⟨h1 (by simpa using hb.1),h1 (by simpa using hb.2)⟩ | skip)
   all_goals (intro c hc; have:=hb c hc; cases c <;> simp_all [CV.bm,k9])
  have h3:∀ {l:List BV},(l.all (·.bm [])) = true → (l.all (·.bm own)) = true:=by
   intro l hl
   rw [List.all_eq_true] at hl ⊢
   exact fun c hc=>h2 (hl c hc)
  cases x with
  | b x=>exact h2 hx
  | kU l=>exact h3 hx
  | opt c x=>exact h2 hx
  | jX l=>exact h3 hx
theorem KF {o:Oper} {f:FuncId} {ks:List Nat} {ls:List (LK D)} {l:HT D (wR ls)} {args:List BV} {res:SV} (hnd:ks.Nodup ∧ ks.length = ls.length) (hm:aG P TB f (bq (b5 false ks ls l)) args (Is [] res)) (hl:fE s0.own (bq (b5 false ks ls l))) (hk:res.bm [] = true)
  (hrun:∀ (a:Act) (w:World) (h:PH) (ρ:RM),WR E n s0.own h ρ w → bp h ρ s0.slots a.tmps → ∃ vals:List Value,(execOp a.eval o).run P w = .ok (.enter f vals.toArray) w ∧ aQ (fun (x:BV) v=>x.rel h ρ v) args vals) :
  aR P E n o s0 ((⟨iq [] s0.slots,p7 ks s0.own⟩:St).put n o.dst res):=by
 intro a w hr next Q hn
 refine vf hm hrun hl hr fun own' res' hp=>?_
 obtain ⟨rfl,rfl⟩:=hp
 refine ⟨rfl,by simp [hJ,ai],hk,fun a' w' hr'=>hn a' w' ?_⟩
 have:∀ {l:List (Nat × OC)} {own:List (Nat × OC)},dv l own = p7 (ai l) own:=by
  intro l
  induction l with
  | nil=>intro own; rfl
  | cons p l ih=>intro own; exact ih
 have e:dv (bq (b5 false ks ls l)) s0.own = p7 ks s0.own:=by rw [this,dj hnd.2]
 show R E n _ a' w'
 rw [← e]
 exact hr'
theorem Hn {o:Oper} {f:FuncId} {ks:List Nat} {ls:List (LK D)} {l l':HT D (wR ls)} {fo:Bool} {args:List BV} {res:SV} (hnd:ks.Nodup ∧ ks.length = ls.length) (hm:aG P TB f (bq (b5 false ks ls l)) args (Is (bq (b5 fo ks ls l')) res)) (hl:fE s0.own (bq (b5 false ks ls l))) (hk:res.bm [] = true) (hrk:∀ k ∈ Dc ks ls,n.fix.contains k = false ∧ ∀ p ∈ s0.own,p.1 ∉ ks → p.2.bd k = false)
  (hrun:∀ (a:Act) (w:World) (h:PH) (ρ:RM),WR E n s0.own h ρ w → bp h ρ s0.slots a.tmps → ∃ vals:List Value,(execOp a.eval o).run P w = .ok (.enter f vals.toArray) w ∧ aQ (fun (x:BV) v=>x.rel h ρ v) args vals) :
  aR P E n o s0 ((⟨iq (Dc ks ls) s0.slots,bL (bq (b5 fo ks ls l')) s0.own⟩:St).put n o.dst res):=by
 intro a w hr next Q hn
 have kb:∀ k,k ∈ ai (bq (b5 fo ks ls l')) → k ∈ aq (bq (b5 false ks ls l)) ∨ k ∈ Dc ks ls:=fun k hk=>by rw [dj hnd.2] at hk; rw [js]; exact G1 hnd.2 k hk
 refine vf hm hrun hl hr fun own' res' hp=>?_
 obtain ⟨rfl,rfl⟩:=hp
 have hpl:=fun (x:SV)=>zL (n:=n) (dst:=o.dst) (x:=x) (st:=⟨jm (bq (b5 false ks ls l)) (bq (b5 fo ks ls l')) s0.slots,bL (bq (b5 fo ks ls l')) (dv (bq (b5 false ks ls l)) s0.own)⟩) (st':=⟨iq (Dc ks ls) s0.slots,bL (bq (b5 fo ks ls l')) s0.own⟩) (fun p hp=>by
  obtain ⟨h1,h2⟩:=Au hp
  exact pP (fun k hk=>(kb k hk).imp_right fun h=>h2 k h) h1) (fun p hp=>by
  rcases mC (j:=p.1) (x:=p.2) hp with h | ⟨h1,h2⟩
  ·exact xu (by rw [dj hnd.2]; exact hnd.1) h
  ·exact rl (ve h1 (by rw [dj hnd.2] at h2 ⊢; exact h2)) h2)
 refine ⟨DV (fun k hk=>(kb k hk).imp_right fun h=>(hrk k h).1),?_,?_,fun a' w' hr'=>hn a' w' (rP (hpl _).1 (hpl _).2 hr')⟩
 ·simp only [hJ,Bool.and_eq_true,List.all_eq_true]
  refine ⟨fun p hp=>(FX hnd.2 hp).2,fun p hp k hk=>?_⟩
  rcases kb k hk with h1 | h1
  ·simp [h1]
  ·obtain ⟨h2,h3⟩:=oS hp
   rw [dj hnd.2] at h3
   simp [(hrk k h1).2 p h2 h3]
 ·exact FZ hk
end
end Go.Dn
namespace Go.Dn
open Go Go.Sk
set_option linter.unusedVariables false
set_option linter.unusedSimpArgs false
set_option linter.unusedSectionVars false
variable {D:Dt}
def tagged (i:Nat):TS D → Bool
 | .o g _=>g.1 == i
 | .gb j=>j == i
 | _=>false
def Bp (i:Nat) (l:List (Nat × TS D)):Bool:=l.all fun p=>!tagged i p.2
def vu (os:List Oper) (s:bE D) (o:Oper):Option (bE D × Option (Nat × Bool)):=match o.guard with
 | none=>some (s,none)
 | some (i,w)=>match (os[i]?).bind (·.dst) with
  | none=>none
  | some t=>match lk s.sl t with
   | some (.gb j)=>if j = i ∧ (yO s.Γ i).isSome = true then some (s,some (i,w)) else none
   | some (.n (.d .bool b))=>if Bp i (del t s.sl) = true then some (⟨(t,.gb i) :: del t s.sl,s.own,⟨i,none,b⟩ :: s.Γ⟩,some (i,w)) else none
   | some (.o q (.d .bool b))=>if Bp i (del t s.sl) = true ∧ q.1 ≠ i then some (⟨(t,.gb i) :: del t s.sl,s.own,⟨i,some q,b⟩ :: s.Γ⟩,some (i,w)) else none
   | _=>none
theorem GM {e:GE} {Γ:List GE} {x:TS D} (h:tagged e.i x = false):x.sv (e :: Γ) = x.sv Γ:=by
 cases x with
 | n x=>rfl
 | u l=>rfl
 | o g x=>
  have:e.i ≠ g.1:=fun e'=>by simp [tagged,e'] at h
  simp only [TS.sv,Cz this]
 | gb j=>
  have:¬ e.i = j:=fun e'=>by simp [tagged,e'] at h
  simp only [TS.sv,yO,this,if_false]
theorem xc {i k:Nat} {l:List (Nat × TS D)} {x:TS D} (h:Bp i l = true) (hm:(k,x) ∈ l):tagged i x = false:=by
 have:=List.all_eq_true.1 h _ hm
 simpa using this
section
variable {P:Program} [DecidableEq D.σ] {TB:aF} {B0:Tb P D TB} {L:Lay D} {X:Type} {E:Env TB} {n:Sh} {s0:St} {s s':bE D} {o:Oper} {os:List Oper} {g:Option (Nat × Bool)} {K:TS D → Option X} {r:X} {a:Act} {w:World} {Q:bF}
theorem ml {α:Type} {t k:Nat} {l:List (Nat × α)} (h:k ≠ t):lk (del t l) k = lk l k:=by
 induction l with
 | nil=>rfl
 | cons p l ih=>
  obtain ⟨j,x⟩:=p
  simp only [del]
  split
  ·next e=>
   have:t = j:=by simpa using e
   subst this
   rw [ih]
   simp only [lk]
   rw [if_neg (by simpa using h)]
  ·simp only [lk]
   rw [ih]
theorem DY {t i:Nat} {p:Option (Nat × Bool)} {b:Bool} {z:TS D} (hz:lk s.sl t = some z) (hu:Bp i (del t s.sl) = true) (hsv:(TS.gb (D:=D) i).sv (⟨i,p,b⟩ :: s.Γ) = z.sv s.Γ) (ha:qu s s0):qu (⟨(t,.gb i) :: del t s.sl,s.own,⟨i,p,b⟩ :: s.Γ⟩:bE D) s0:=by
 refine ⟨fun k y hk=>?_,ha.own⟩
 by_cases hkt:k = t
 ·subst hkt
  have:y = .gb i:=by simpa [lk] using hk.symm
  subst this
  rw [ha.sl _ _ hz]
  exact congrArg some hsv.symm
 ·have h1:lk (del t s.sl) k = some y:=by simpa [lk,hkt] using hk
  have h2:=xc hu (bh h1)
  rw [ml hkt] at h1
  rw [ha.sl _ _ h1]
  exact congrArg some (GM (e:=⟨i,p,b⟩) h2).symm
theorem Jg {t i:Nat} {p:Option (Nat × Bool)} {b:Bool} {z:TS D} (hz:lk s.sl t = some z) (hu:Bp i (del t s.sl) = true) (hsv:(TS.gb (D:=D) i).sv (⟨i,p,b⟩ :: s.Γ) = z.sv s.Γ) (hr:R E n s.st a w):R E n (⟨(t,.gb i) :: del t s.sl,s.own,⟨i,p,b⟩ :: s.Γ⟩:bE D).st a w:=by
 obtain ⟨h1,h2,hh,ρ,hw,hs⟩:=hr
 refine ⟨h1,h2,hh,ρ,hw,fun k x hx=>?_⟩
 obtain ⟨y,hy,rfl⟩:=dR.1 hx
 rcases List.mem_cons.1 hy with e | e
 ·cases e
  have:(TS.gb (D:=D) i).sv (⟨i,p,b⟩ :: s.Γ) = z.sv s.Γ:=hsv
  show ∃ v,_ ∧ ((TS.gb (D:=D) i).sv (⟨i,p,b⟩ :: s.Γ)).rel hh ρ v
  rw [this]
  exact hs _ _ (dR.2 ⟨z,bh hz,rfl⟩)
 ·have h3:=xc hu e
  show ∃ v,_ ∧ (y.sv (⟨i,p,b⟩ :: s.Γ)).rel hh ρ v
  rw [GM (e:=⟨i,p,b⟩) h3]
  exact hs _ _ (dR.2 ⟨y,(b9 e).1,rfl⟩)
theorem I4 {b w:Bool}:sgn w b = (b == w):=by cases b <;> cases w <;> rfl
theorem y3 {t i:Nat} {w:Bool} (ha:qu s s0) (hl:lk s.sl t = some (.gb i)) {c:Option Bool} {b:Bool} (hg:yO s.Γ i = some (c,b)):mK s0 t w (gv s.Γ (i,w)):=by
 have h1:=ha.sl _ _ hl
 rw [Fm hg]
 simp only [TS.sv,hg] at h1
 cases c with
 | none=>rw [I4]; exact .plain h1
 | some c=>rw [I4]; exact .under h1
def GOf (s:bE D) (s0:St) (os:List Oper) (o:Oper):Option (Nat × Bool) → Prop
 | none=>o.guard = none
 | some q=>o.guard = some q ∧ ∃ t,(os[q.1]?).bind (·.dst) = some t ∧ mK s0 t q.2 (gv s.Γ q)
theorem zW (h:vu os s o = some (s',g)):(∀ s0,qu s s0 → qu s' s0) ∧ (∀ s0,qu s' s0 → GOf s' s0 os o g) ∧ (∀ a w,R E n s.st a w → R E n s'.st a w) ∧ s'.own = s.own:=by
 unfold vu at h
 split at h
 ·next hg=>cases h; exact ⟨fun s0 ha=>ha,fun s0 ha=>hg,fun _ _ hr=>hr,rfl⟩
 ·next i w hg=>
  split at h
  ·cases h
  ·next t ht=>
   split at h
   ·next j hj=>
    split at h
    ·next e=>
     obtain ⟨e,hga⟩:=e
     subst e
     cases h
     refine ⟨fun s0 ha=>ha,fun s0 ha=>⟨hg,t,ht,?_⟩,fun _ _ hr=>hr,rfl⟩
     cases hq:yO s.Γ j with
     | none=>rw [hq] at hga; cases hga
     | some q=>obtain ⟨c,b⟩:=q; exact y3 ha hj hq
    ·cases h
   ·next b hb=>
    split at h
    ·next hu=>
     cases h
     have hsv:(TS.gb (D:=D) i).sv (⟨i,none,b⟩ :: s.Γ) = (TS.n (.d .bool b):TS D).sv s.Γ:=by simp [TS.sv,yO,T0.bv,iC]
     exact ⟨fun s0 ha=>DY hb hu hsv ha,fun s0 ha'=>⟨hg,t,ht,y3 (c:=none) (b:=b) ha' (by simp [lk]) (by simp [yO])⟩,fun _ _ hr=>Jg hb hu hsv hr,rfl⟩
    ·cases h
   ·next q b hb=>
    split at h
    ·next hu=>
     cases h
     obtain ⟨hu,hq⟩:=hu
     have hsv:(TS.gb (D:=D) i).sv (⟨i,some q,b⟩ :: s.Γ) = (TS.o q (.d .bool b):TS D).sv s.Γ:=by simp [TS.sv,yO,T0.bv,iC]
     exact ⟨fun s0 ha=>DY hb hu hsv ha,fun s0 ha'=>⟨hg,t,ht,y3 (c:=some (gv s.Γ q)) (b:=b) ha' (by simp [lk]) (by simp [yO])⟩,fun _ _ hr=>Jg hb hu hsv hr,rfl⟩
    ·cases h
   ·cases h
end
end Go.Dn
namespace Go.Dn
open Go Go.Sk
set_option linter.unusedVariables false
set_option linter.unusedSimpArgs false
set_option linter.unusedSectionVars false
section
variable {P:Program} {D:Dt} [DecidableEq D.σ] {pk:PK D} {TB:aF} {B0:Tb P D TB} {L:Lay D} {X:Type} {E:Env TB} {n:Sh} {s0:St} {s:bE D} {dst:Option Nat} {ty:TypeId} {pos:String} {after:Array Edge} {g:Option (Nat × Bool)} {x:Operand} {K:Ef D → Option X} {W:D.T pk.d → bE D → Option X} {r:X} {G:List (bJ D pk)}
theorem iL {α:Type} {k:Nat} {c:α}:∀ {l:List (Nat × α)},(l.map (·.1)).Nodup → (k,c) ∈ l → lk l k = some c
 | (j,x) :: l,hn,h=>by
  simp only [List.map_cons,List.nodup_cons] at hn
  rcases List.mem_cons.1 h with e | e
  ·cases e; simp [lk]
  ·have:¬ k = j:=fun e'=>by subst e'; exact hn.1 (List.mem_map.2 ⟨_,e,rfl⟩)
   simp only [lk]
   rw [if_neg (by simpa using this)]
   exact iL hn.2 e
theorem IX {ro fo:Bool} {ks:List Nat} {ls:List (LK D)} {l:HT D (wR ls)} {l':HT D (AQ ro ls)} {st:St} {own:List (Nat × TO D)} (hrf:ro = true → fo = false) (hl:De false own ks ls = some l) (ho:∀ k c,lk own k = some c → lk st.own k = some c.oc) (hnd:ks.Nodup ∧ ks.length = ls.length) (hro:ro = true → (ai st.own).Nodup):∀ p,p ∈ bL (bq (wst fo ks ro ls l')) st.own → p ∈ bL (bq (b5 fo ks ls (E5 ro ls l l'))) st.own:=by
 intro p hp
 cases ro with
 | false=>exact hp
 | true=>
  have hp':p ∈ st.own:=hp
  obtain rfl:=hrf rfl
  show p ∈ bL (bq (b5 false ks ls l)) st.own
  by_cases hk:p.1 ∈ ai (bq (b5 false ks ls l))
  ·refine xu (by rw [dj hnd.2]; exact hnd.1) ?_
   obtain ⟨q,hq,e⟩:=List.mem_map.1 hk
   obtain ⟨q',hq',e'⟩:=List.mem_map.1 hq
   have h1:=ho _ _ (qY hl q' hq')
   have h2:=iL (hro rfl) (show (p.1,p.2) ∈ st.own from hp')
   subst e'
   simp only at e
   rw [e] at h1
   rw [h1] at h2
   cases p
   simp only at e h2
   subst e
   cases h2
   exact hq
  ·exact rl hp' hk
theorem JV {own:List (Nat × TO D)} {ks:List Nat} {k:Nat} {c:TO D} (h:(k,c) ∈ surv own ks):lk own k = some c ∧ k ∉ ks:=by
 simp only [surv,List.mem_filterMap] at h
 obtain ⟨k',_,h2⟩:=h
 split at h2
 ·cases h2
 ·next hk=>
  obtain ⟨c',hc,e⟩:=Option.map_eq_some_iff.1 h2
  cases e
  exact ⟨hc,by simpa using hk⟩
theorem zJ {own:List (Nat × TO D)} {ks:List Nat} {st:St} (ho:∀ k c,lk own k = some c → lk st.own k = some c.oc):∀ p ∈ bq (surv own ks),p ∈ st.own ∧ p.1 ∉ ks:=by
 intro p hp
 obtain ⟨⟨k,c⟩,hq,rfl⟩:=List.mem_map.1 hp
 obtain ⟨h1,h2⟩:=JV hq
 exact ⟨bh (ho _ _ h1),h2⟩
theorem DJ {s:bE D} {ks:List Nat} {st:St} (ha:qu s st):∀ p ∈ (Gc s ks).st.slots,p ∈ st.slots:=by
 intro p hp
 obtain ⟨⟨t,y⟩,hq,rfl⟩:=List.mem_map.1 hp
 obtain ⟨t',_,h2⟩:=List.mem_filterMap.1 hq
 split at h2
 ·next x hx=>
  cases h2
  exact bh (show lk st.slots _ = _ from ha.sl _ _ hx)
 ·cases h2
theorem pan_op {s:bE D} {o:Oper} {f:FuncId} {ks:List Nat} {ls:List (LK D)} {l:HT D (wR ls)} {args:List BV} {p:D.T pk.d} (hm:gJ P TB f (bq (b5 false ks ls l)) args (pk.pv p) (pk.ok p)) (hl:fE s0.own (bq (b5 false ks ls l)))
  (hrun:∀ (a:Act) (w:World) (h:PH) (ρ:RM),WR E n s0.own h ρ w → bp h ρ s0.slots a.tmps → ∃ vals:List Value,(execOp a.eval o).run P w = .ok (.enter f vals.toArray) w ∧ aQ (fun (x:BV) v=>x.rel h ρ v) args vals) (ha:qu s s0) (hkl:ks.length = ls.length):PanE P E n s0 o pk p (Gc s ks):=by
 intro a w hr next Q hq
 exact vQ hm hrun hl hr fun hok a' w' hr'=>hq hok a' w' (rP (st:=⟨s0.slots,dv (bq (b5 false ks ls l)) s0.own⟩) (fun p hp=>DJ ha p hp) (fun p hp=>ve (zJ ha.own p hp).1 (by rw [dj hkl]; exact (zJ ha.own p hp).2)) hr')
theorem Eb {xs:List Operand} {ats:Array TypeId} {g':Option (Nat × Bool)} (hG:EV P TB G) (h:Gs G s g x xs K W = some r) :
  (∃ e,K e = some r ∧ ∀ s0,qu s s0 → HE n s0 e → IB P E n s s0 g ⟨dst,.call ⟨.value x,⟨xs⟩,ats⟩,ty,pos,after,g'⟩ e) ∨ (g = none ∧ ∃ p ow,W p ow = some r ∧ ∀ s0,qu s s0 → PanE P E n s0 ⟨dst,.call ⟨.value x,⟨xs⟩,ats⟩,ty,pos,after,g'⟩ pk p ow):=by
 obtain ⟨⟨f,pre,post⟩,hq,h1⟩:=aJ h
 obtain ⟨zs,hz,h2⟩:=aJ h1
 obtain ⟨⟨c,a⟩,hc,h3⟩:=aJ h2
 obtain ⟨l,hl,h4⟩:=aJ h3
 split at h4
 ·cases h4
 rename_i hrr
 obtain ⟨hf,⟨hgo,hnd,hm⟩,hea⟩:=z7 hG hc
 have hargs:=CD hea
 simp only at hf hgo hnd hm hea hargs hl h4 hrr
 cases g with
 | none=>
  obtain ⟨v,hv,h5⟩:=aJ h4
  have hv:=hm _ _ _ hv
  have hrun:∀ s0,qu s s0 → ∀ (a':Act) (w:World) (h:PH) (ρ:RM),WR E n s0.own h ρ w → bp h ρ s0.slots a'.tmps → ∃ vals:List Value,(execOp a'.eval ⟨dst,.call ⟨.value x,⟨xs⟩,ats⟩,ty,pos,after,g'⟩).run P w = .ok (.enter c.f vals.toArray) w ∧ aQ (fun (x:BV) v=>x.rel h ρ v) (kL c.ar c.kx a) vals:=by
   intro s0 ha a' w h ρ hw hs
   rw [← hargs]
   rw [hf] at hgo ⊢
   exact BU (fun x y e=>ha.ev e) hgo hq hz hw hs
  rcases crE_ok h5 with ⟨y,e1,h6⟩ | ⟨p,e1,h6⟩
  ·rw [e1] at hv
   refine .inl ⟨_,h6,fun s0 ha hnw=>?_⟩
   by_cases hdp:c.dp = true
   ·simp only [hdp,if_true] at hv
    have:=KF (s0:=s0) hnd hv (tH hl ha.own) xf (hrun s0 ha)
    show aR P E n _ s0 (St.put n dst _ _)
    rw [GR]
    simp only [hdp,if_true]
    exact this
   have hdp:c.dp = false:=by simpa using hdp
   simp only [hdp,Bool.false_eq_true,if_false] at hv hnw ⊢
   have hrk:∀ k ∈ Dc c.ks c.ls,n.fix.contains k = false ∧ ∀ p ∈ s0.own,p.1 ∉ c.ks → p.2.bd k = false:=fun k hk=>by
    obtain ⟨h7,h8⟩:=hnw.1.2 k hk
    refine ⟨h7,fun p hp hpk=>h8 p hp ?_⟩
    have:c.ro = false:=by
     cases hro:c.ro with
     | false=>rfl
     | true=>
      exfalso
      apply hrr
      refine .inl ⟨?_,.inl ⟨hro,hdp⟩⟩
      cases hz:Dc c.ks c.ls with
      | nil=>rw [hz] at hk; cases hk
      | cons _ _=>rfl
    have hwk:∀ {ro:Bool} {z:HT D (AQ ro c.ls)},ro = false → (wst c.fo c.ks ro c.ls z).map (·.1) = c.ks:=by
     intro ro z e
     subst e
     have:=dj (fo:=c.fo) (l:=z) hnd.2
     rw [show ai (bq (b5 c.fo c.ks c.ls z)) = (b5 c.fo c.ks c.ls z).map (·.1) by simp [ai,bq]] at this
     exact this
    rw [hwk this]
    exact hpk
   have:=Hn (s0:=s0) hnd hv (tH hl ha.own) xf hrk (hrun s0 ha)
   show aR P E n _ s0 (St.put n dst _ _)
   rw [GR]
   have hpl:=zL (n:=n) (dst:=dst) (x:=(zd c.rs (BW c.rs (AQ c.ro c.ls) y).1).sv []) (st':=⟨iq (Dc c.ks c.ls ++ []) s0.slots,bL (bq (wst c.fo c.ks c.ro c.ls (BW c.rs (AQ c.ro c.ls) y).2)) s0.own⟩) (st:=⟨iq (Dc c.ks c.ls) s0.slots,bL (bq (b5 c.fo c.ks c.ls (E5 c.ro c.ls l (BW c.rs (AQ c.ro c.ls) y).2))) s0.own⟩) (fun p hp=>by rw [List.append_nil] at hp; exact hp) (IX (ro:=c.ro) (st:=s0) (fun e=>by
    cases hfo:c.fo with
    | false=>rfl
    | true=>exact absurd (.inr ⟨e,hfo⟩) hrr) (l':=(BW c.rs (AQ c.ro c.ls) y).2) hl ha.own hnd hnw.2)
   exact aR.less this hpl.1 hpl.2
  ·rw [e1] at hv
   exact .inr ⟨rfl,p,_,h6,fun s0 ha=>pan_op hv (tH hl ha.own) (hrun s0 ha) ha hnd.2⟩
 | some q=>
  obtain ⟨f',ar,kx,ks,ls,rs,ro,pn,dp,fo,val⟩:=c
  simp only at h4 hf hgo hnd hm hea hargs hl
  rcases rs with _ | ⟨d,_ | ⟨_,_⟩⟩
  ·cases h4
  ·cases ro with
   | false=>cases h4
   | true=>
    cases pn with
    | true=>cases h4
    | false=>
     cases dp with
     | true=>cases h4
     | false=>
     cases fo with
     | true=>cases h4
     | false=>
     obtain ⟨v,hv,h5⟩:=aJ h4
     refine .inl ⟨_,h5,fun s0 ha hnw=>⟨_,_,rfl,fun hg=>?_⟩⟩
     have e:=fb hv (by simp [hg])
     have hv:=hm _ _ _ e
     have hnil:Dc ks ls = []:=by
      cases hz:Dc ks ls with
      | nil=>rfl
      | cons _ _=>exact absurd (.inl ⟨by rw [hz]; rfl,.inr rfl⟩) hrr
     have hno:∀ {k:Nat},k ∉ Dc ks ls:=by rw [hnil]; simp
     have hk:(SV.b (T0.d d v:T0 D).bv).bm [] = true:=xf (l:=[d]) (v:=v) (Γ:=[])
     have:=Hn (s0:=⟨EU s q ++ s0.slots,s0.own⟩) (l:=l) (l':=l) (res:=SV.b (T0.d d v:T0 D).bv) (o:=⟨dst,.call ⟨.value x,⟨xs⟩,ats⟩,ty,pos,after,g'⟩) hnd hv (tH hl ha.own) hk (fun k hk=>absurd hk hno) (fun a' w h ρ hw hs=>by
      rw [← hargs]
      subst hf
      exact BU (E:=E) (n:=n) (fun x y e=>ha.evG e) hgo hq hz hw hs)
     have hpl:=zL (n:=n) (dst:=dst) (x:=SV.b (T0.d d v:T0 D).bv) (st':=⟨EU s q ++ s0.slots,s0.own⟩) (st:=⟨iq (Dc ks ls) (EU s q ++ s0.slots),bL (bq (b5 false ks ls l)) s0.own⟩) (fun p hp=>by rw [hnil]; exact hp) (IX (ro:=true) (fo:=false) (fun _=>rfl) (l':=()) (st:=s0) hl ha.own hnd (fun _=>hnw.2 rfl))
     exact aR.less this hpl.1 hpl.2
  ·cases h4
end
end Go.Dn
namespace Go.Dn
open Go Go.Sk
set_option linter.unusedVariables false
set_option linter.unusedSimpArgs false
set_option linter.unusedSectionVars false
variable {D:Dt}
def bE.put (n:Nat) (dst:Option Nat) (x:TS D) (s:bE D):bE D:=match dst with
 | some d=>if d < n then ⟨(d,x) :: del d s.sl,s.own,s.Γ⟩ else s
 | none=>s
theorem put_st {n:Sh} {dst:Option Nat} {x:TS D} {s:bE D}:(s.put n.n dst x).st = s.st.put n dst (x.sv s.Γ):=by
 cases dst with
 | none=>rfl
 | some d=>
  unfold bE.put St.put St.set
  simp only
  split
  ·simp only [bE.st]
   rw [z6]
   rfl
  ·rfl
def lok (lcks:List Nat):Option Nat → Bool
 | some d=>!lcks.contains d
 | none=>true
def oG (k:Nat):T0 D → Bool
 | .p x=>x.bd k
 | .ri j _ _ _=>j == k
 | .ap j _ _ _ _ _=>j == k
 | _=>false
def mN (k:Nat):TS D → Bool
 | .n x=>oG k x
 | .u l=>l.any (oG k)
 | .o _ x=>oG k x
 | .gb _=>false
def xN (k:Nat) (l:List (Nat × TS D)):List (Nat × TS D):=l.filter fun p=>!mN k p.2
def w3 (k:Nat) (l:List (Nat × TO D)):Bool:=l.all fun p=>match p.2 with
 | .raw c=>!c.bd k
 | .x _ _ k' kr fg _=>k' != k && (fg || kr != k)
 | .cp _ k'=>k' != k
 | _=>true
theorem z8 {k:Nat} {d:DT D.σ} {v:V D d}:(iC D d v).bd k = false:=by cases d <;> rfl
theorem zF {k:Nat} {x:T0 D}:x.bv.bd k = oG k x:=by
 cases x with
 | d t v=>exact z8
 | ep t v o=>rfl
 | ri j m i o=>rfl
 | p x=>rfl
 | ifc T t v=>rfl
 | fn f=>rfl
 | ap j off m i y o=>rfl
 | xv i v=>rfl
theorem DC {j k kr:Nat} {fg:Bool} (h1:k ≠ j) (h2:fg = true ∨ kr ≠ j):∀ {l:List XC} {ps:List CP},(kW k kr fg l ps).any (·.bd j) = false
 | [],_=>rfl
 | _ :: _,[]=>rfl
 | x :: l,p :: ps=>by
  simp only [kW,List.any_cons,Bool.or_eq_false_iff]
  refine ⟨?_,DC h1 h2⟩
  cases x with
  | c=>rfl
  | sp=>
   simp only [iE]
   split
   ·simpa [BV.bd] using h1
   ·rfl
  | r=>
   simp only [iE]
   split
   ·rfl
   ·next hf=>
    rcases h2 with h2 | h2
    ·exact absurd h2 hf
    ·simpa [BV.bd] using h2
theorem vK {Γ:List GE} {k:Nat} {x:TS D}:(x.sv Γ).bd k = mN k x:=by
 cases x with
 | n x=>exact zF
 | u l=>simp only [TS.sv,SV.bd,mN,List.any_map]; congr 1; funext x; exact zF
 | o g x=>exact zF
 | gb i=>simp only [TS.sv]; split <;> rfl
theorem vd {Γ:List GE} {k:Nat}:∀ {l:List (Nat × TS D)},cn k (od Γ l) = od Γ (xN k l)
 | []=>rfl
 | (j,x) :: l=>by
  simp only [od,List.map_cons,cn,xN,List.filter_cons]
  rw [vK]
  cases h:mN k x with
  | true=>simp only [if_true,Bool.not_true,Bool.false_eq_true,if_false]; exact vd (l:=l)
  | false=>simp only [Bool.false_eq_true,if_false,Bool.not_false,if_true,List.map_cons]; exact congrArg _ (vd (l:=l))
theorem u7 {k:Nat} {l:List (Nat × TO D)} (h:w3 k l = true):di k (bq l) = true:=by
 simp only [di,bq,List.all_map,List.all_eq_true]
 intro p hp
 have:=List.all_eq_true.1 h p hp
 obtain ⟨j,c⟩:=p
 cases c with
 | raw c=>exact this
 | box T t v=>rfl
 | row T t l=>rfl
 | x T i k' kr fg v=>
  show (!(kW k' kr fg (D.xs i) (D.e i v)).any (·.bd k)) = true
  simp only [Bool.and_eq_true,Bool.or_eq_true,bne_iff_ne,ne_eq] at this
  rw [DC this.1 this.2]
  rfl
 | cp T k'=>
  show (![BV.ptr k' 0].any (·.bd k)) = true
  simpa [BV.bd] using this
 | ms t es=>
  show (!(vo CP.str (es.map fun p=>(p.1,iC D t p.2))).any (·.2.bd k)) = true
  simp [vo,z8]
 | mi ik t es=>
  show (!(vo (CP.int ik) (es.map fun p=>(p.1,iC D t p.2))).any (·.2.bd k)) = true
  simp [vo,z8]
theorem zV {k:Nat} {c:TO D}:∀ {l:List (Nat × TO D)},ins k c.oc (bq l) = bq (ins k c l)
 | []=>rfl
 | (j,x) :: l=>by
  have hd:∀ {l:List (Nat × TO D)},del k (bq l) = bq (del k l):=by
   intro l
   induction l with
   | nil=>rfl
   | cons p l ih=>
    obtain ⟨i,y⟩:=p
    simp only [bq,List.map_cons,del]
    split
    ·exact ih
    ·exact congrArg _ ih
  simp only [bq,List.map_cons,ins]
  split
  ·exact congrArg _ hd
  ·exact congrArg _ (zV (l:=l))
theorem qd {α:Type} {k j:Nat} {c:α} (h:j ≠ k):∀ {l:List (Nat × α)},lk (ins k c l) j = lk l j
 | []=>by simp [ins,lk,h]
 | (i,x) :: l=>by
  simp only [ins]
  split
  ·next e=>
   have:k = i:=by simpa using e
   subst this
   simp only [lk]
   rw [if_neg (by simpa using h),if_neg (by simpa using h),ml h]
  ·simp only [lk]
   rw [qd h]
theorem zS {k t:Nat} {x:TS D} (hx:mN k x = false):∀ {l:List (Nat × TS D)},lk l t = some x → lk (xN k l) t = some x
 | (j,y) :: l,h=>by
  by_cases e:t = j
  ·subst e
   have:y = x:=by simpa [lk] using h
   subst this
   simp only [xN,List.filter_cons,hx,Bool.not_false,if_true,lk,beq_self_eq_true]
  ·have h':lk l t = some x:=by simpa [lk,e] using h
   have ih:=zS hx h'
   simp only [xN,List.filter_cons] at ih ⊢
   split
   ·simp only [lk]
    rw [if_neg (by simpa using e)]
    exact ih
   ·exact ih
section
variable {P:Program} [DecidableEq D.σ] {TB:aF} {B0:Tb P D TB} {L:Lay D} {X:Type} {E:Env TB} {n:Sh} {s0:St} {s s':bE D} {o:Oper} {os l:List Oper} {g:Option (Nat × Bool)} {K:bE D → Option X} {r:X} {a:Act} {w:World} {Q:bF} {lcks lo:List Nat}
def vl (s:bE D) (t:Nat):Option (T0 D):=match lk s.sl t with
 | some (.n x)=>some x
 | some (.gb i)=>(match yO s.Γ i with
  | some (none,b)=>some (.d .bool b)
  | _=>none)
 | _=>none
structure Ext (lcks lo:List Nat) (s s':bE D):Prop where
 sl:∀ t,t ∈ lcks → ∀ x,vl s t = some x → vl s' t = some x
 ow:∀ k,k ∈ lo → ∀ c,lk s.own k = some c → lk s'.own k = some c
theorem Ext.refl:Ext lcks lo s s:=⟨fun _ _ _ h=>h,fun _ _ _ h=>h⟩
theorem Ext.trans {s'':bE D} (h:Ext lcks lo s s') (h':Ext lcks lo s' s''):Ext lcks lo s s'':=⟨fun t ht x hx=>h'.sl t ht x (h.sl t ht x hx),fun k hk c hc=>h'.ow k hk c (h.ow k hk c hc)⟩
theorem GS {x:TS D} {d:Option Nat} {m:Nat}:(s.put m d x).own = s.own:=by
 cases d with
 | none=>rfl
 | some d=>unfold bE.put; simp only; split <;> rfl
theorem GU {x:TS D} {d:Option Nat} {m:Nat} (h:lok lcks d = true):Ext lcks lo s (s.put m d x):=by
 refine ⟨fun t ht y hy=>?_,fun k _ c hc=>by rw [GS]; exact hc⟩
 cases d with
 | none=>exact hy
 | some d=>
  have hne:t ≠ d:=fun e=>by subst e; simp [lok] at h; exact h ht
  unfold bE.put
  simp only
  split
  ·unfold vl
   simp only [lk]
   rw [if_neg (by simpa using hne),ml hne]
   exact hy
  ·exact hy
end
section
variable {P:Program} [DecidableEq D.σ] {TB:aF} (B0:Tb P D TB) (L:Lay D) {X:Type}
structure Fr where
 n:Nat
 fx:List Nat
 rw:List Nat:=[]
structure Kept where
 s:List Nat
 o:List Nat
 r:List (Nat × Nat):=[]
def key (dst:Option Nat):Nat:=match dst with
 | some d=>d + 100
 | none=>99
def isW (fr:Fr) (o:Oper):Bool:=match o.op with
 | .store _ _ _ | .alloc _ | .box _ _ | .makeSlice _ _ _ | .makeMap _ _ | .insert _ _ _ _=>true
 | .call ⟨.builtin .append,_,_⟩=>true
 | .assign (.const (.slice none 0 0)) | .buildSlice _ _ _=>(match o.dst with
  | some d=>fr.rw.contains d
  | none=>false)
 | _=>false
def otyp:Oper → TypeId
 | ⟨_,_,ty,_,_,_⟩=>ty
def opx (s:bE D) (o:Oper) (K:Ef D → Option X):Option X:=match o.op with
 | .store t x y=>if o.dst = none then (s.ev none x).bind fun a=>(s.ev none y).bind fun b=>(B0.ty t).bind fun d=>(gl d b).bind fun v=>(match a with
  | .p (.ptr k off)=>(lk s.own k).bind fun c=>(match c with
   | .box T d0 u=>(oy L d v 8 d0 u off).bind fun w=>K { z:=none,st:=[(k,.box T d0 w)] }
   | _=>none)
  | .ri k m i o=>(match lk s.own k with
   | some (.row T d0 l)=>if m = sz D d0 then (aH l i).bind fun z=>(oy L d v 8 d0 z o).bind fun z'=>K { z:=none,st:=[(k,.row T d0 (l.set i.toNat z'))] } else none
   | _=>none)
  | .ap k off m i y o=>(L.ar i).bind fun a=>if m = sz D a.d then (match lk s.own k with
   | some (.box T d0 u)=>(pz L (.st i) d0 u off).bind fun w=>(aH (a.al w) y).bind fun z=>(oy L d v 8 a.d z o).bind fun z'=>(oy L (.st i) (a.ao ((a.al w).set y.toNat z')) 8 d0 u off).bind fun u'=>K { z:=none,st:=[(k,.box T d0 u')] }
   | _=>none) else none
  | _=>none) else none
 | .makeSlice t x y=>(B0.ty t).bind fun d=>(match d with
  | .sl d=>(B0.el t d).bind fun e=>if e.2 ≤ 281474 then (s.ev none x).bind fun a=>(s.ev none y).bind fun b=>(match a,b with
   | .d (.int _) a,.d (.int _) b=>(mk? (zv D d) a b).bind fun r=>K { z:=some (.n (.p (.row (key o.dst)))),st:=[(key o.dst,.row e.1 d r)],nw:=[key o.dst] }
   | _,_=>none) else none
  | _=>none)
 | .makeMap t none=>(B0.mt t).bind fun q=>(match q with
  | (none,d)=>K { z:=some (.n (.p (.row (key o.dst)))),st:=[(key o.dst,.ms d [])],nw:=[key o.dst] }
  | (some ik,d)=>K { z:=some (.n (.p (.row (key o.dst)))),st:=[(key o.dst,.mi ik d [])],nw:=[key o.dst] })
 | .insert t m x y=>if o.dst = none then (s.ev none m).bind fun a=>(s.ev none x).bind fun b=>(s.ev none y).bind fun c=>(match a with
  | .p (.row k)=>(match lk s.own k with
   | some (.ms d es)=>(match B0.mt t with
    | some (none,d')=>if d' = d then (gl .str b).bind fun u=>(gl d c).bind fun v=>(match dY es u with
     | none=>K { z:=none,st:=[(k,.ms d (es ++ [(u,v)]))] }
     | some _=>none) else none
    | _=>none)
   | some (.mi ik d es)=>(match B0.mt t with
    | some (some ik',d')=>if d' = d ∧ ik' = ik then (gl (.int ik) b).bind fun u=>(gl d c).bind fun v=>(match dY es u with
     | none=>K { z:=none,st:=[(k,.mi ik d (es ++ [(u,v)]))] }
     | some _=>none) else none
    | _=>none)
   | _=>none)
  | _=>none) else none
 | .alloc T=>(B0.zt T).bind fun d=>K { z:=some (.n (.p (.ptr (key o.dst) 0))),st:=[(key o.dst,.box T d (zv D d))],nw:=[key o.dst] }
 | .box T x=>(s.ev none x).bind fun a=>(match a with
  | .d d v=>K { z:=some (.n (.p (.ptr (key o.dst) 0))),st:=[(key o.dst,.box T d v)],nw:=[key o.dst] }
  | _=>none)
 | .buildSlice t len ps=>(B0.ty t).bind fun d=>(match d with
  | .sl d=>if ps.toList.length = len ∧ 0 < len ∧ 0 < sz D d ∧ len * sz D d ≤ 16777216 then (B0.el t d).bind fun e=>(elv (s.ev none) d 0 ps.toList).bind fun l=>K { z:=some (.n (.p (.row (key o.dst)))),st:=[(key o.dst,.row e.1 d l)],nw:=[key o.dst] } else none
  | _=>none)
 | .assign (.const (.slice none 0 0))=>(B0.ty (otyp o)).bind fun d=>(match d with
  | .sl d=>if 0 < sz D d then (B0.el (otyp o) d).bind fun e=>K { z:=some (.n (.p (.row (key o.dst)))),st:=[(key o.dst,.row e.1 d [])],nw:=[key o.dst] } else none
  | _=>none)
 | .call ⟨.builtin .append,⟨[.const (.slice none 0 0),y]⟩,⟨[t,t']⟩⟩=>if t' = t then (B0.ty t).bind fun d=>(match d with
  | .sl d=>(B0.el t d).bind fun e=>if e.2 ≤ 140737 ∧ 0 < sz D d then (s.ev none y).bind fun b=>(gl (.sl d) b).bind fun m=>(bV ([]:List (V D d)) m).bind fun z=>K { z:=some (.n (.p (.row (key o.dst)))),st:=[(key o.dst,.row e.1 d z)],nw:=[key o.dst] } else none
  | _=>none) else none
 | .call ⟨.builtin .append,⟨[x,y]⟩,⟨[t,t']⟩⟩=>if t' = t then (B0.ty t).bind fun d=>(match d with
  | .sl d=>(B0.el t d).bind fun e=>if e.2 ≤ 140737 then (s.ev none y).bind fun b=>(gl (.sl d) b).bind fun m=>(match s.ev none x with
   | some (.p (.row k))=>(lk s.own k).bind fun c=>(match c with
    | .row T d' l=>if h:T = e.1 ∧ d' = d then (bV (show List (V D d) from h.2 ▸ l) m).bind fun z=>K { z:=some (.n (.p (.row k))),st:=[(k,.row T d z)],nw:=[k] } else none
    | _=>none)
   | _=>none) else none
  | _=>none) else none
 | _=>none
end
section
variable {P:Program} [DecidableEq D.σ] {TB:aF} {B0:Tb P D TB} {L:Lay D} {X:Type} {E:Env TB} {n:Sh} {s s':bE D} {o:Oper} {s0:St} {K:Ef D → Option X} {r:X} {fr:Fr} {lk0:Kept} {dst:Option Nat} {k:Nat} {c:TO D} {z:TS D}
theorem Am {s:St} {T k:Nat} {zs:List CP} {ty:TypeId} {pos:String} {after:Array Edge} {g:Option (Nat × Bool)} (ht:TyZ P T zs) (hfx:n.fix.contains k = false) (hnu:di k s.own = true):aR P E n ⟨dst,.alloc T,ty,pos,after,g⟩ s ((⟨cn k s.slots,ins k (.box T zs) s.own⟩:St).put n dst (.b (.ptr k 0))) :=
 aR.make (hfx:=hfx) (hnu:=hnu) (o:=⟨dst,.alloc T,ty,pos,after,g⟩) fun ac w h ρ hw hs=>by
  obtain ⟨i,z,hi,hz,hzs⟩:=ht
  refine ⟨.pointer (some ⟨w.heap.size,0,none⟩),.pointer (some ⟨w.heap.size,0,none⟩),w.alloc (.cells z.cells T),none,?_,fun b e=>by simp at e,by simp,rfl,rfl,fun b hb _=>heap_alloc_old w _ hb,⟨w.heap.size,z.cells,rfl,heap_alloc_new w _,hzs h⟩,
   fun b e=>by simp [aZ] at e; subst e; exact .inr (Nat.le_refl _),w.heap.size,cG _ _ _,rfl⟩
  simp [execOp,Instr.alloc,zeroValue,typeInfo,hi,hz,newVar,newRow]
theorem Ac {t:TypeId} {x y:Operand} {ty:TypeId} {pos:String} {after:Array Edge} {g:Option (Nat × Bool)} {k off:Nat} {T:TypeId} {d d0:DT D.σ} {u w:V D d0} {v:V D d} (hs:qu s s0) (ht:yA P D t d) (hx:s0.ev x = some (.b (.ptr k off))) (hb:s.ev none y = some (.d d v)) (hk:lk s.own k = some (.box T d0 u)) (e1:Sk.aN (enc D d0 u) off (enc D d v) = enc D d0 w) (e2:off + sz D d ≤ sz D d0) :
  aR P E n ⟨none,.store t x y,ty,pos,after,g⟩ s0 ⟨s0.slots,ins k (.box T (enc D d0 w)) s0.own⟩:=by
 have hk':lk s0.own k = some (.box T (enc D d0 u)):=hs.own _ _ hk
 have hy:=hs.ev hb
 have hl:(enc D d0 u).length = sz D d0:=ca
 have hl2:(enc D d v).length = sz D d:=ca
 cases hag:agg d with
 | true=>
  have hy':s0.ev y = some (.b (.agg (enc D d v))):=by rw [hy]; show some (SV.b (iC D d v)) = _; rw [lg hag]
  exact aW (xM ht hag) hx hk' hy' ca (by rw [hl]; exact e2) e1
 | false=>
  obtain ⟨p,e3,e4⟩:=ky (v:=v) hag
  have hy':s0.ev y = some (.b (.one p)):=by rw [hy]; show some (SV.b (iC D d v)) = _; rw [e3]
  have h1:=p8 hag
  refine dK (py ht hag) hx hk' hy' (by rw [hl]; omega) ?_
  rw [← e1,e4]
  simp only [Sk.aN,List.length_singleton]
  rw [List.set_eq_take_append_cons_drop,if_pos (by rw [hl]; omega)]
  simp
theorem JW {t:TypeId} {x y:Operand} {ty:TypeId} {pos:String} {after:Array Edge} {g:Option (Nat × Bool)} {k off:Nat} {T:TypeId} {d d0:DT D.σ} {u w:V D d0} {v:V D d} (hs:qu s s0) (ht:yA P D t d) (ha:s.ev none x = some (.p (.ptr k off))) (hb:s.ev none y = some (.d d v)) (hk:lk s.own k = some (.box T d0 u)) (hu:oy L d v 8 d0 u off = some w) :
  aR P E n ⟨none,.store t x y,ty,pos,after,g⟩ s0 ⟨s0.slots,ins k (.box T (enc D d0 w)) s0.own⟩:=by
 obtain ⟨e1,e2⟩:=qT L d v 8 _ _ _ _ hu
 exact Ac hs ht (hs.ev ha) hb hk e1 e2
theorem HM {t:TypeId} {x y:Operand} {ty:TypeId} {pos:String} {after:Array Edge} {g:Option (Nat × Bool)} {k off o:Nat} {i:D.σ} {a:AV D i} {yi:Int} {T:TypeId} {d d0:DT D.σ} {u u':V D d0} {v:V D d} {w:D.T i} {z z':V D a.d} (hs:qu s s0) (ht:yA P D t d) (ha:s.ev none x = some (.ap k off (sz D a.d) i yi o)) (hb:s.ev none y = some (.d d v)) (hk:lk s.own k = some (.box T d0 u))
  (hw:pz L (.st i) d0 u off = some w) (hz:aH (a.al w) yi = some z) (hz':oy L d v 8 a.d z o = some z') (hu:oy L (.st i) (a.ao ((a.al w).set yi.toNat z')) 8 d0 u off = some u') :
  aR P E n ⟨none,.store t x y,ty,pos,after,g⟩ s0 ⟨s0.slots,ins k (.box T (enc D d0 u')) s0.own⟩:=by
 obtain ⟨_,_,h3⟩:=zo hz
 have h4:yi.toNat < (a.al w).length:=(List.getElem?_eq_some_iff.1 h3).1
 obtain ⟨e1,e2⟩:=qU L (.st i) 8 _ _ _ _ hw
 obtain ⟨e3,e4⟩:=a.at_ h3
 obtain ⟨e5,e6⟩:=qT L d v 8 _ _ _ _ hz'
 obtain ⟨e7,e8⟩:=qT L (.st i) _ 8 _ _ _ _ hu
 have hl:(D.e i w).length = D.n i:=D.len i w
 have hld:(enc D d0 u).length = sz D d0:=ca
 have hl2:(enc D d v).length = sz D d:=ca
 have e1':((enc D d0 u).drop off).take (D.n i) = D.e i w:=e1
 have e8':off + D.n i ≤ sz D d0:=e8
 refine Ac hs ht (hs.ev ha) hb hk ?_ ?_
 ·rw [← e7]
  show _ = Sk.aN _ off (D.e i (a.ao ((a.al w).set yi.toNat z')))
  rw [a.set_ h4,← e5,← e3]
  rw [GO (by rw [hl2]; exact e6) (by exact e4)]
  rw [← e1']
  rw [GO (n:=D.n i) (by rw [hl2]; omega) (by rw [hld]; exact e8')]
  rw [Nat.add_assoc]
 ·rw [hl] at e4
  omega
theorem HR {s:St} {T:TypeId} {k size:Nat} {ty:TypeId} {pos:String} {after:Array Edge} {g:Option (Nat × Bool)} (hz:0 < size) (hfx:n.fix.contains k = false) (hnu:di k s.own = true):aR P E n ⟨dst,.assign (.const (.slice none 0 0)),ty,pos,after,g⟩ s ((⟨cn k s.slots,ins k (.row T size []) s.own⟩:St).put n dst (.b (.row k))) :=
 aR.make (hfx:=hfx) (hnu:=hnu) (o:=⟨dst,.assign (.const (.slice none 0 0)),ty,pos,after,g⟩) fun ac w h ρ hw hs=>
  ⟨.slice none 0 0,.slice none 0 0,w,none,rfl,fun b hb=>by simp at hb,Nat.le_refl _,rfl,rfl,fun b hb _=>rfl,⟨fun ps hps=>by simp at hps,hz,[],⟨by simp,.inl ⟨rfl,rfl⟩⟩,.nil⟩,fun b hb=>by simp [aZ] at hb,(cG _ _ _).symm⟩
theorem opx_ok (h:opx B0 L s o K = some r):∃ e,K e = some r ∧ ∀ s0,qu s s0 → HE n s0 e → aR P E n o s0 (e.ap n s.Γ o.dst s0):=by
 obtain ⟨dst,op,ty,pos,after,g⟩:=o
 unfold opx at h
 split at h
 ·next t x y ho=>
  split at h
  ·next hd=>
   simp only at hd ho
   subst hd ho
   obtain ⟨a,ha,h1⟩:=aJ h
   obtain ⟨b,hb,h2⟩:=aJ h1
   obtain ⟨d,ht,h3⟩:=aJ h2
   obtain ⟨v,hv,h4⟩:=aJ h3
   cases df hv
   split at h4
   ·next k off=>
    obtain ⟨c,hc,h5⟩:=aJ h4
    split at h5
    ·next T d0 u=>
     obtain ⟨w,hw,h6⟩:=aJ h5
     exact ⟨_,h6,fun s0 hs _=>JW hs (B0.tok _ _ ht) ha hb hc hw⟩
    ·cases h5
   ·next k m i o=>
    split at h4
    ·next T d0 l hk=>
     split at h4
     ·next hm=>
      subst hm
      obtain ⟨z,hz,h5⟩:=aJ h4
      obtain ⟨z',hz',h6⟩:=aJ h5
      refine ⟨_,h6,fun s0 hs _=>?_⟩
      have ht:=B0.tok _ _ ht
      obtain ⟨e1,e2⟩:=qT L d v 8 _ _ _ _ hz'
      have hk':lk s0.own k = some (.row T (sz D d0) (l.map (enc D d0))):=hs.own _ _ hk
      have hi:(l.map (enc D d0))[i.toNat]? = some (enc D d0 z):=qW hz
      have hset:(l.map (enc D d0)).set i.toNat (enc D d0 z') = (l.set i.toNat z').map (enc D d0):=by rw [List.map_set]
      have hy:=hs.ev hb
      cases hag:agg d with
      | true=>
       have hy':s0.ev y = some (.b (.agg (enc D d v))):=by rw [hy]; show some (SV.b (iC D d v)) = _; rw [lg hag]
       exact En (xM ht hag) (hs.ev ha) hk' hy' rfl hi e2 (by rw [e1,hset]) (hq:=ca)
      | false=>
       obtain ⟨p,e3,e4⟩:=ky (v:=v) hag
       have hy':s0.ev y = some (.b (.one p)):=by rw [hy]; show some (SV.b (iC D d v)) = _; rw [e3]
       have h1:=p8 hag
       exact CO (py ht hag) (hs.ev ha) hk' hy' rfl hi (by omega) (by rw [← e4,e1,hset])
     ·cases h4
    ·cases h4
   ·obtain ⟨ar,_,h5⟩:=aJ h4
    split at h5
    ·next hm=>
     subst hm
     split at h5
     ·next T d0 u hk=>
      obtain ⟨w,hw,h6⟩:=aJ h5
      obtain ⟨z,hz,h7⟩:=aJ h6
      obtain ⟨z',hz',h8⟩:=aJ h7
      obtain ⟨u',hu,h9⟩:=aJ h8
      exact ⟨_,h9,fun s0 hs _=>HM hs (B0.tok _ _ ht) ha hb hk hw hz hz' hu⟩
     ·cases h5
    ·cases h5
   ·cases h4
  ·cases h
 ·next t x y ho=>
  simp only at ho
  subst ho
  obtain ⟨d0,hd,h1⟩:=aJ h
  split at h1
  ·next d=>
   obtain ⟨e,he,h2⟩:=aJ h1
   obtain ⟨et,bytes⟩:=e
   obtain ⟨zs,hsl,hzc⟩:=B0.elo _ _ _ _ he
   split at h2
   ·next hbb=>
    obtain ⟨a,ha,h3⟩:=aJ h2
    obtain ⟨b,hb,h4⟩:=aJ h3
    split at h4
    ·obtain ⟨rr,hr,h5⟩:=aJ h4
     exact ⟨_,h5,fun s0 hs hn=>CS hsl hr hbb hzc (hs.ev ha) (hs.ev hb) (hn.1.1 _ List.mem_cons_self).2 (hn.1.1 _ List.mem_cons_self).1⟩
    ·cases h4
   ·cases h2
  ·cases h1
 ·next t ho=>
  simp only at ho
  subst ho
  obtain ⟨q,hq,h1⟩:=aJ h
  split at h1
  ·next d=>
   obtain ⟨kt,et,hu,hz⟩:=B0.mto _ _ _ hq
   exact ⟨_,h1,fun s0 hs hn=>u0 hz.und (hn.1.1 _ List.mem_cons_self).2 (hn.1.1 _ List.mem_cons_self).1⟩
  ·next ik d=>
   obtain ⟨kt,et,hu,hz⟩:=B0.mto _ _ _ hq
   exact ⟨_,h1,fun s0 hs hn=>u0 hz.und (hn.1.1 _ List.mem_cons_self).2 (hn.1.1 _ List.mem_cons_self).1⟩
 ·next t m x y ho=>
  split at h
  ·next hd=>
   simp only at hd ho
   subst hd ho
   obtain ⟨a,ha,h1⟩:=aJ h
   obtain ⟨b,hb,h2⟩:=aJ h1
   obtain ⟨c,hc,h3⟩:=aJ h2
   split at h3
   ·next k=>
    split at h3
    ·next d es hk=>
     split at h3
     ·next d' hm=>
      split at h3
      ·next e=>
       subst e
       obtain ⟨u,hu,h4⟩:=aJ h3
       obtain ⟨v,hv,h5⟩:=aJ h4
       cases df hu
       cases df hv
       split at h5
       ·next hg=>
        obtain ⟨kt,et,hu2,hz⟩:=B0.mto _ _ _ hm
        refine ⟨_,h5,fun s0 hs hn=>?_⟩
        have:=Cr (P:=P) (E:=E) (n:=n) (ty:=ty) (pos:=pos) (after:=after) (g:=g) (zm hu2) hz (hs.ev ha) (hs.own _ _ hk) (hs.ev hb) (hs.ev hc) (by rw [mR,hg]; rfl)
        show aR P E n _ s0 ⟨s0.slots,ins k (.mp (vo CP.str ((es ++ [(u,v)]).map fun p=>(p.1,iC D d' p.2)))) s0.own⟩
        rw [List.map_append]
        exact this
       ·cases h5
      ·cases h3
     ·cases h3
    ·next ik d es hk=>
     split at h3
     ·next ik' d' hm=>
      split at h3
      ·next e=>
       obtain ⟨rfl,rfl⟩:=e
       obtain ⟨u,hu,h4⟩:=aJ h3
       obtain ⟨v,hv,h5⟩:=aJ h4
       cases df hu
       cases df hv
       split at h5
       ·next hg=>
        obtain ⟨kt,et,hu2,hz⟩:=B0.mto _ _ _ hm
        refine ⟨_,h5,fun s0 hs hn=>?_⟩
        have:=Cr (P:=P) (E:=E) (n:=n) (ty:=ty) (pos:=pos) (after:=after) (g:=g) (Fg hu2) hz (hs.ev ha) (hs.own _ _ hk) (hs.ev hb) (hs.ev hc) (by rw [mR,hg]; rfl)
        show aR P E n _ s0 ⟨s0.slots,ins k (.mp (vo (CP.int ik') ((es ++ [(u,v)]).map fun p=>(p.1,iC D d' p.2)))) s0.own⟩
        rw [List.map_append]
        exact this
       ·cases h5
      ·cases h3
     ·cases h3
    ·cases h3
   ·cases h3
  ·cases h
 ·next T ho=>
  simp only at ho
  subst ho
  obtain ⟨d,hd,h1⟩:=aJ h
  exact ⟨_,h1,fun s0 hs hn=>Am (B0.zok _ _ hd) (hn.1.1 _ List.mem_cons_self).2 (hn.1.1 _ List.mem_cons_self).1⟩
 ·next T x ho=>
  simp only at ho
  subst ho
  obtain ⟨a,ha,h1⟩:=aJ h
  split at h1
  ·next d v=>
   refine ⟨_,h1,fun s0 hs hn=>?_⟩
   have hx:=hs.ev ha
   obtain ⟨h5,h4⟩:=hn.1.1 _ List.mem_cons_self
   cases hag:agg d with
   | true=>
    have hx':s0.ev x = some (.b (.agg (enc D d v))):=by rw [hx]; show some (SV.b (iC D d v)) = _; rw [lg hag]
    exact wZ hx' h4 h5
   | false=>
    obtain ⟨p,e3,e4⟩:=ky (v:=v) hag
    have hx':s0.ev x = some (.b (.one p)):=by rw [hx]; show some (SV.b (iC D d v)) = _; rw [e3]
    show aR P E n _ s0 ((⟨cn _ s0.slots,ins _ (.box T (enc D d v)) s0.own⟩:St).put n _ _)
    rw [e4]
    exact op_box1 hx' h4 h5
  ·cases h1
 ·next t len ps ho=>
  simp only at ho
  subst ho
  obtain ⟨d0,hd,h1⟩:=aJ h
  split at h1
  ·next d=>
   split at h1
   ·next hc0=>
    obtain ⟨c1,c2,c3,c4⟩:=hc0
    obtain ⟨e,he,h2⟩:=aJ h1
    obtain ⟨l,hl,h3⟩:=aJ h2
    obtain ⟨et,bytes⟩:=e
    obtain ⟨zs,hsl,hzc⟩:=B0.elo _ _ _ _ he
    refine ⟨_,h3,fun s0 hs hn=>?_⟩
    obtain ⟨h7,h6⟩:=hn.1.1 _ List.mem_cons_self
    obtain ⟨e1,e2⟩:=Fv (s:=s0) (fun x y e=>hs.ev e) hl
    have hu:cb (sz D d) (l.map (enc D d)):=fun q hq=>by
     obtain ⟨v,_,rfl⟩:=List.mem_map.1 hq
     exact ca
    exact da hsl e1 (tJ (j:=0) (pre:=[]) hu (by simp) (by simp [e2,c1])) hu (by simp [e2,c1]) (Nat.mul_pos c2 c3) c4 h6 h7
   ·cases h1
  ·cases h1
 ·next ho=>
  simp only at ho
  subst ho
  obtain ⟨d,hd,h1⟩:=aJ h
  split at h1
  ·split at h1
   ·next d hz=>
    obtain ⟨e,he,h2⟩:=aJ h1
    exact ⟨_,h2,fun s0 hs hn=>HR hz (hn.1.1 _ List.mem_cons_self).2 (hn.1.1 _ List.mem_cons_self).1⟩
   ·cases h1
  ·cases h1
 ·next y t t' ho=>
  simp only at ho
  subst ho
  split at h
  ·next ht'=>
   subst ht'
   obtain ⟨d0,hd,h1⟩:=aJ h
   split at h1
   ·next d=>
    obtain ⟨e,he,h2⟩:=aJ h1
    obtain ⟨et,bytes⟩:=e
    obtain ⟨zs,hsl,hzc⟩:=B0.elo _ _ _ _ he
    split at h2
    ·next hb=>
     obtain ⟨b,hy,h3⟩:=aJ h2
     obtain ⟨m,hm,h4⟩:=aJ h3
     obtain ⟨z,hz,h5⟩:=aJ h4
     cases df hm
     refine ⟨_,h5,fun s0 hs hn=>?_⟩
     obtain ⟨h10,h9⟩:=hn.1.1 _ List.mem_cons_self
     have hl:=lh hz
     have hz2:m = z:=by have:=qf hz; simpa using this
     subst hz2
     simp only [List.length_nil,Nat.zero_add] at hl
     refine EC hsl hb.2 ?_ ?_ (hs.ev hy) h9 h10
     ·simp only [List.length_map]
      exact Nat.le_trans (Nat.mul_le_mul hl hb.1) (by decide)
     ·simp only [List.length_map]
      exact Nat.le_trans hl (by decide)
    ·cases h2
   ·cases h1
  ·cases h
 ·next x y t t' ho=>
  simp only at ho
  subst ho
  split at h
  ·next ht'=>
   subst ht'
   obtain ⟨d0,hd,h1⟩:=aJ h
   split at h1
   ·next d=>
    obtain ⟨e,he,h2⟩:=aJ h1
    obtain ⟨et,bytes⟩:=e
    obtain ⟨zs,hsl,hzc⟩:=B0.elo _ _ _ _ he
    split at h2
    ·next hb=>
     obtain ⟨b,hy,h3⟩:=aJ h2
     obtain ⟨m,hm,h4⟩:=aJ h3
     cases df hm
     split at h4
     ·next k hx=>
      obtain ⟨c,hc,h5⟩:=aJ h4
      split at h5
      ·next T d' l=>
       split at h5
       ·next hT=>
        obtain ⟨hT1,hT2⟩:=hT
        simp only at hT1
        subst hT1 hT2
        obtain ⟨z,hz,h6⟩:=aJ h5
        refine ⟨_,h6,fun s0 hs hn=>?_⟩
        obtain ⟨h10,h9⟩:=hn.1.1 _ List.mem_cons_self
        have hy':=hs.ev hy
        have hx':=hs.ev hx
        have hk:lk s0.own k = some (.row T (sz D d') (l.map (enc D d'))):=hs.own _ _ hc
        have hl:=lh hz
        have hz2:=qf hz
        subst hz2
        simp only at hb
        refine mu hsl ?_ ?_ hx' hk hy' (by simp) h9 h10
        ·simp only [List.length_map]
         exact Nat.le_trans (Nat.mul_le_mul hl hb) (by decide)
        ·simp only [List.length_map]
         exact Nat.le_trans hl (by decide)
       ·cases h5
      ·cases h5
     ·cases h4
    ·cases h2
   ·cases h1
  ·cases h
 ·cases h
end
end Go.Dn
namespace Go.Dn
open Go Go.Sk
set_option linter.unusedVariables false
set_option linter.unusedSimpArgs false
set_option linter.unusedSectionVars false
variable {D:Dt}
def Bo (k:Nat):Nat:=k + 100000
def rof (l:List XC):Option Nat:=if l[l.idxOf .r]? = some .r ∧ ((l.drop (l.idxOf .r + 1)).contains .r = false ∧ (l.take (l.idxOf .r)).contains .r = false) then some (l.idxOf .r) else none
theorem Cb {l:List XC} {o:Nat} (h:rof l = some o):l[o]? = some .r ∧ (l.drop (o + 1)).contains .r = false ∧ (l.take o).contains .r = false:=by
 unfold rof at h
 split at h
 ·next hc=>cases h; exact hc
 ·cases h
def setC (xs:List XC) (pl:List (Nat × Nat)) (l:List Nat):Bool:=l.all fun j=>match pl[j]? with
 | some q=>(List.range q.2).all fun m=>xs[q.1 + m]? == some .c
 | none=>false
theorem vy:∀ {l:List XC} {ps:List CP},l.length = ps.length → (Bn l ps).length = ps.length
 | [],[],_=>rfl
 | _ :: l,_ :: ps,h=>by simp only [Bn,List.length_cons]; rw [vy (by simpa using h)]
theorem Gx {l:List XC}:∀ {ps:List CP} {o:Nat},(Bn l ps)[o]? = (l[o]?).bind fun x=>(ps[o]?).map (zcell x):=by
 induction l with
 | nil=>intro ps o; simp [Bn]
 | cons x l ih=>
  intro ps o
  cases ps with
  | nil=>cases o <;> simp [Bn]
  | cons p ps=>
   cases o with
   | zero=>simp [Bn]
   | succ o=>simp only [Bn,List.getElem?_cons_succ]; exact ih
theorem Ad {α:Type} {l q:List α} {o j:Nat} (h:o + q.length ≤ l.length):(Sk.aN l o q)[j]? = if j < o then l[j]? else if j < o + q.length then q[j - o]? else l[j]?:=by
 have h1:(l.take o).length = o:=by simp; omega
 unfold Sk.aN
 rw [List.append_assoc]
 by_cases hj:j < o
 ·rw [if_pos hj,List.getElem?_append_left (by omega),List.getElem?_take,if_pos hj]
 ·rw [if_neg hj,List.getElem?_append_right (by omega),h1]
  by_cases hj2:j < o + q.length
  ·rw [if_pos hj2,List.getElem?_append_left (by omega)]
  ·rw [if_neg hj2,List.getElem?_append_right (by omega),List.getElem?_drop]
   congr 1
   omega
theorem FC {xs:List XC} {ps q:List CP} {o:Nat} (h:o + q.length ≤ ps.length) (hx:xs.length = ps.length) (hc:∀ m,m < q.length → xs[o + m]? = some .c):Bn xs (Sk.aN ps o q) = Sk.aN (Bn xs ps) o q:=by
 have hl:=vy hx
 apply List.ext_getElem?
 intro j
 rw [Gx,Ad h,Ad (l:=Bn xs ps) (by rw [hl]; exact h),Gx]
 by_cases hj:j < o
 ·simp only [if_pos hj]
 ·simp only [if_neg hj]
  by_cases hj2:j < o + q.length
  ·simp only [if_pos hj2]
   have:xs[j]? = some .c:=by
    have:=hc (j - o) (by omega)
    rwa [show o + (j - o) = j by omega] at this
   rw [this]
   simp only [Option.bind_some]
   cases q[j - o]? <;> rfl
  ·simp only [if_neg hj2]
theorem BS {xs:List XC} {pl:List (Nat × Nat)}:∀ {cps:List (Nat × List CP)} {zs qs:List CP},xs.length = zs.length → setC xs pl (cps.map (·.1)) = true → ir (pl.toArray[·]?) zs cps = some qs → ir (pl.toArray[·]?) (Bn xs zs) cps = some (Bn xs qs)
 | [],zs,qs,_,_,h=>by cases h; rfl
 | (j,q) :: r,zs,qs,hx,hs,h=>by
  simp only [ir,List.getElem?_toArray] at h ⊢
  obtain ⟨p,hp,h1⟩:=aJ h
  simp only [setC,List.map_cons,List.all_cons,Bool.and_eq_true] at hs
  rw [hp] at hs ⊢
  simp only [Option.bind_some]
  split at h1
  ·next hc=>
   rw [if_pos (by rw [vy hx]; exact hc)]
   have h2:∀ m,m < q.length → xs[p.1 + m]? = some .c:=fun m hm=>by
    have:=List.all_eq_true.1 hs.1 m (List.mem_range.2 (by omega))
    simpa using this
   rw [← FC hc.2 hx h2]
   have hlen:(Sk.aN zs p.1 q).length = zs.length:=by simp [Sk.aN]; omega
   have:=BS (xs:=xs) (pl:=pl) (cps:=r) (by rw [hlen]; exact hx) hs.2 (by simpa only [List.getElem?_toArray] using h1)
   simpa only [List.getElem?_toArray] using this
  ·cases h1
theorem wz {s:St}:∀ {l:List (Nat × Operand)} {cps:List (Nat × List CP)},eE s l = some cps → cps.map (·.1) = l.map (·.1)
 | [],cps,h=>by cases h; rfl
 | (i,x) :: l,cps,h=>by
  unfold eE at h
  obtain ⟨z,hz,h1⟩:=aJ h
  obtain ⟨ps,hps,h2⟩:=aJ h1
  obtain ⟨r,hr,e⟩:=Option.map_eq_some_iff.1 h2
  subst e
  simp only [List.map_cons]
  rw [wz hr]
section
variable {P:Program} [DecidableEq D.σ] {TB:aF} {B0:Tb P D TB} {L:Lay D} {X:Type} {E:Env TB} {n:Sh} {s s':bE D} {o:Oper} {s0:St} {K:Ef D → Option X} {r:X} {fr:Fr} {dst:Option Nat}
theorem aR.postR {s1 s2:St} (h:aR P E n o s0 s1) (H:∀ a w,R E n s1 a w → R E n s2 a w):aR P E n o s0 s2:=fun a w hr next Q hn=>h a w hr next Q fun a' w' hr'=>hn a' w' (H a' w' hr')
theorem vP {st:St} {dst:Option Nat} {x:SV}:(st.put n dst x).own = st.own:=by
 cases dst with
 | none=>rfl
 | some d=>
  simp only [St.put,St.set]
  split <;> rfl
theorem y5 {k off kr size:Nat} {T Te:TypeId} {zs:List CP} {cs:List BV} {slots:List (Nat × SV)} {own:List (Nat × OC)} {res:SV} (hres:res.bd kr = false) (hsz:0 < size) (hne:k ≠ kr) (hfx:n.fix.contains kr = false) (hnu:di kr own = true) (hz:zs[off]? = some .nil) (hcs:(zs.map BV.one).set off (.row kr) = cs) (dst:Option Nat)
  (h:aR P E n o s0 ((⟨slots,ins k (.box T zs) own⟩:St).put n dst res)):aR P E n o s0 ((⟨cn kr slots,bL [(k,.ba T cs),(kr,.row Te size [])] own⟩:St).put n dst res):=by
 refine aR.postR h fun a w hr=>?_
 have hk1:lk ((⟨slots,ins k (.box T zs) own⟩:St).put n dst res).own k = some (.box T zs):=by
  rw [vP]
  show lk (ins k _ own) k = _
  have:∀ {own:List (Nat × OC)} {c:OC},lk (ins k c own) k = some c:=by
   intro own c
   induction own with
   | nil=>simp [ins,lk]
   | cons q own ih=>
    obtain ⟨j,x⟩:=q
    simp only [ins]
    split
    ·simp [lk]
    ·next e=>simp only [lk]; rw [if_neg e]; exact ih
  exact this
 have hlk:∀ {own:List (Nat × OC)} {c:OC},lk (ins k c own) k = some c:=by
  intro own c
  induction own with
  | nil=>simp [ins,lk]
  | cons q own ih=>
   obtain ⟨j,x⟩:=q
   simp only [ins]
   split
   ·simp [lk]
   ·next e=>simp only [lk]; rw [if_neg e]; exact ih
 have h1:=hr.Ib k hk1
 have hnu2:di kr (ins k (.ba T (zs.map BV.one)) ((⟨slots,ins k (.box T zs) own⟩:St).put n dst res).own) = true:=by
  rw [vP]
  simp only [di,List.all_eq_true,Bool.not_eq_true'] at hnu ⊢
  intro p hp
  obtain ⟨j,c⟩:=p
  rcases iu hp with ⟨rfl,rfl⟩ | ⟨h4,h3⟩
  ·show (zs.map BV.one).any (·.bd kr) = false
   simp [BV.bd]
  ·rcases iu h3 with ⟨rfl,rfl⟩ | ⟨_,h5⟩
   ·exact absurd rfl h4
   ·exact hnu _ h5
 have h2:=h1.pE k off kr size Te hlk (by rw [List.getElem?_map,hz]; rfl) hsz hne hfx hnu2
 rw [hcs] at h2
 refine rP (fun p hp=>?_) (fun p hp=>?_) h2
 ·
  show p ∈ cn kr (St.put n dst res ⟨slots,ins k (.box T zs) own⟩).slots
  cases dst with
  | none=>exact hp
  | some d=>
   simp only [St.put,St.set] at hp ⊢
   split at hp
   ·next hd=>
    rw [if_pos hd]
    rcases List.mem_cons.1 hp with e | e
    ·subst e; exact jz hres List.mem_cons_self
    ·obtain ⟨e1,e2⟩:=b9 e
     obtain ⟨e3,e4⟩:=fF e1
     exact jz e4 (List.mem_cons_of_mem _ (cV e3 e2))
   ·next hd=>rw [if_neg hd]; exact hp
 ·rw [vP] at hp
  show p ∈ ins k (.ba T cs) (ins kr (.row Te size []) (ins k (.ba T (zs.map BV.one)) ((⟨slots,ins k (.box T zs) own⟩:St).put n dst res).own))
  rw [vP]
  obtain ⟨j,c⟩:=p
  have hp:(j,c) ∈ ins kr (.row Te size []) (ins k (.ba T cs) own):=hp
  rcases iu hp with ⟨rfl,rfl⟩ | ⟨h4,h3⟩
  ·exact gN sI (fun e=>hne e.symm)
  ·rcases iu h3 with ⟨rfl,rfl⟩ | ⟨h6,h5⟩
   ·exact sI
   ·exact gN (gN (gN (gN h5 h6) h6) h4) h6
theorem GB {k kr j:Nat}:∀ {l:List XC} {ps:List CP} {o:Nat},l[o]? = some .r → (l.drop (o + 1)).contains .r = false → (l.take o).contains .r = false → ∀ {fg:Bool},(kW k kr fg l ps).set o (.row j) = kW k j false l ps
 | x :: l,p :: ps,0,h1,h2,_,fg=>by
  simp at h1
  subst h1
  have:∀ {l:List XC} {ps:List CP},l.contains .r = false → kW k kr fg l ps = kW k j false l ps:=by
   intro l
   induction l with
   | nil=>intro ps _; rfl
   | cons x l ih=>
    intro ps h
    simp only [List.contains_cons,Bool.or_eq_false_iff] at h
    cases ps with
    | nil=>rfl
    | cons p ps=>
     simp only [kW]
     rw [ih h.2]
     cases x with
     | r=>simp at h
     | _=>rfl
  simp only [kW,List.set_cons_zero]
  rw [this (by simpa using h2)]
  rfl
 | x :: l,p :: ps,o + 1,h1,h2,h3,fg=>by
  simp only [List.take_succ_cons,List.contains_cons,Bool.or_eq_false_iff] at h3
  simp only [kW,List.set_cons_succ]
  rw [GB (by simpa using h1) (by simpa using h2) h3.2]
  cases x with
  | r=>simp at h3
  | _=>rfl
 | [],_,_,h1,_,_,_=>by simp at h1
 | _ :: _,[],_,_,_,_,_=>by simp [kW]
theorem DU {k j:Nat}:∀ {l:List XC} {ps:List CP} {o:Nat},l.length = ps.length → l.contains .sp = false → l[o]? = some .r → (l.drop (o + 1)).contains .r = false → (l.take o).contains .r = false → (ps.map BV.one).set o (.row j) = kW k j false l ps
 | x :: l,p :: ps,0,hl,hs,h1,h2,_=>by
  simp at h1
  subst h1
  have:∀ {l:List XC} {ps:List CP},l.length = ps.length → l.contains .sp = false → l.contains .r = false → ps.map BV.one = kW k j false l ps:=by
   intro l
   induction l with
   | nil=>intro ps hl _ _; cases ps with
    | nil=>rfl
    | cons p ps=>cases hl
   | cons x l ih=>
    intro ps hl hs h
    simp only [List.contains_cons,Bool.or_eq_false_iff] at h hs
    cases ps with
    | nil=>cases hl
    | cons p ps=>
     simp only [kW,List.map_cons]
     rw [ih (by simpa using hl) hs.2 h.2]
     cases x with
     | r=>simp at h
     | sp=>simp at hs
     | c=>rfl
  simp only [List.contains_cons,Bool.or_eq_false_iff] at hs
  simp only [kW,List.map_cons,List.set_cons_zero]
  rw [this (by simpa using hl) hs.2 (by simpa using h2)]
  rfl
 | x :: l,p :: ps,o + 1,hl,hs,h1,h2,h3=>by
  simp only [List.take_succ_cons,List.contains_cons,Bool.or_eq_false_iff] at h3 hs
  simp only [kW,List.map_cons,List.set_cons_succ]
  rw [DU (by simpa using hl) hs.2 (by simpa using h1) (by simpa using h2) h3.2]
  cases x with
  | r=>simp at h3
  | sp=>simp at hs
  | c=>rfl
 | [],_,_,_,_,h1,_,_=>by simp at h1
 | _ :: _,[],_,hl,_,_,_,_=>by cases hl
theorem Eo {t ty:TypeId} {x y:Operand} {pos:String} {after:Array Edge} {g:Option (Nat × Bool)} {k off j:Nat} {T:TypeId} {ps:List CP} {cs:List BV} {s:St} (ht:cS P t) (hx:s.ev x = some (.b (.ptr k off))) (hk:lk s.own k = some (.box T ps)) (hy:s.ev y = some (.b (.row j))) (hj:j ≠ k) (hz:(BV.row j).mo s.own = true) (hlt:off < ps.length) (hps:(ps.map BV.one).set off (.row j) = cs) :
  aR P E n ⟨none,.store t x y,ty,pos,after,g⟩ s ⟨s.slots,ins k (.ba T cs) s.own⟩:=by
 have h:=eU (P:=P) (E:=E) (n:=n) (ty:=ty) (pos:=pos) (after:=after) (g:=g) (s:=⟨s.slots,ins k (.ba T (ps.map .one)) s.own⟩) ht hx (Sk.qd _ _ _) hy (by
  simp only [BV.mo] at hz ⊢
  rw [qd hj]
  exact hz) (by simpa using hlt) hps
 intro a w hr next Q hn
 exact h a w (hr.Ib k hk) next Q fun a' w' hr'=>hn a' w' (by
  rw [G2] at hr'
  exact hr')
theorem w4 {k:Nat}:k ≠ Bo k:=by unfold Bo; omega
end
end Go.Dn
namespace Go.Dn
open Go Go.Sk Go.BigFrame
set_option linter.unusedVariables false
set_option linter.unusedSimpArgs false
set_option linter.unusedSectionVars false
section
variable {P:Program} {TB:aF} {E:Env TB} {n:Sh} {s:St} {dst:Option Nat} {t ty yt:TypeId} {pos:String} {after:Array Edge} {g:Option (Nat × Bool)} {x y:Operand}
theorem Hf:∀ {xs:List Int},(xs.map (Sk.eK .u8)).flatten = xs.map (CP.int .u8)
 | []=>rfl
 | a :: l=>by simp only [List.map_cons,List.flatten_cons,Hf,Sk.eK]; rfl
theorem ES {ats:Array TypeId} {cs:Array Bool} {args:Array Value}:builtin .unsafeSliceData ats ty cs args = (do pure (.value (← Builtin.unsafeSliceData_ ats ty args))):=rfl
theorem C9 {ats:Array TypeId} {cs:Array Bool} {args:Array Value}:builtin .unsafeString ats ty cs args = (do pure (.value (← Builtin.unsafeString_ ats ty args))):=rfl
theorem op_usd {k size:Nat} {T:TypeId} {es:List (List CP)} (hx:s.ev x = some (.b (.row k))) (hk:lk s.own k = some (.row T size es)) (hne:es ≠ []) :
  aR P E n ⟨dst,.call ⟨.builtin .unsafeSliceData,#[x],#[t]⟩,ty,pos,after,g⟩ s (s.put n dst (.b (.gh k 0))) :=
 aR.val (o:=⟨dst,.call ⟨.builtin .unsafeSliceData,#[x],#[t]⟩,ty,pos,after,g⟩) fun ac w h ρ hw hs=>by
  have hv:ac.eval x = ρ k:=(aC hs hx:BV.rel h ρ (.row k) _)
  obtain ⟨hu,hz,hf⟩:=mP hw hk
  rcases hf with ⟨_,he⟩ | ⟨b,cap,cur,h1,h2,h3,h4,h5,h6⟩
  ·exact absurd he hne
  ·have hl:0 < es.length:=List.length_pos_iff.2 hne
   refine ⟨.pointer (some ⟨b,0,none⟩),?_,b,es.length,cap,h1,rfl⟩
   have:=Lib.run_unsafeSliceData_row (P:=P) (w:=w) #[t] ty ⟨b,0,none⟩ es.length cap (by omega)
   rw [execOp_builtin,ES]
   simp [hv,h1,this]
theorem H5 {w:World} {a:Addr} {m:Nat}:(w.freeze a m).os = w.os ∧ (w.freeze a m).output = w.output ∧ (w.freeze a m).heap.size = w.heap.size:=by
 unfold World.freeze
 split
 ·exact ⟨rfl,rfl,rfl⟩
 ·exact ⟨rfl,rfl,by simp⟩
theorem C6 {w:World} {a:Addr} {m b:Nat} (h:b ≠ a.block):(w.freeze a m).heap[b]? = w.heap[b]?:=by
 unfold World.freeze
 split
 ·rfl
 ·simp only [Array.getElem?_modify]
  rw [if_neg (fun e=>h e.symm)]
theorem op_ustr {k:Nat} {T pt it:TypeId} {xs:List Int} (hp:P.underlying pt = some (.pointer T)) (hc:P.cellsOf T = 1) (hx:s.ev x = some (.b (.gh k 0))) (hy:s.ev y = some (.b (.one (.int .i64 (xs.length:Int))))) (hk:lk s.own k = some (.row T 1 (xs.map (Sk.eK .u8)))) (hne:xs ≠ []) (hfx:n.fix.contains k = false) (hnu:di k s.own = true) :
  aR P E n ⟨dst,.call ⟨.builtin .unsafeString,#[x,y],#[pt,it]⟩,ty,pos,after,g⟩ s ((⟨cn k s.slots,ins k (.row T 1 []) s.own⟩:St).put n dst (.b (.one (.str (toStr xs))))) :=
 aR.make (hfx:=hfx) (hnu:=hnu) (o:=⟨dst,.call ⟨.builtin .unsafeString,#[x,y],#[pt,it]⟩,ty,pos,after,g⟩) fun ac w h ρ hw hs=>by
  obtain ⟨b,n1,c1,hρ,hv⟩:=(aC hs hx:BV.rel h ρ (.gh k 0) _)
  obtain ⟨hy',_⟩:ac.eval y = .int .i64 (xs.length:Int) ∧ kX .i64 (xs.length:Int):=(aC hs hy:(CP.int _ _).rel h _)
  obtain ⟨hu,hz,hf⟩:=mP hw hk
  rcases hf with ⟨_,he⟩ | ⟨b',cap,cur,h1,h2,h3,h4,h5,h6⟩
  ·exact absurd (by simpa using he) hne
  ·have hb:b' = b:=by rw [h1] at hρ; simpa using (show b' = b from by cases hρ; rfl)
   subst hb
   simp only [List.length_map,Nat.mul_one] at h1 h3 h5 h6
   have hfl:(xs.map (Sk.eK .u8)).flatten = xs.map (CP.int .u8):=Hf
   rw [hfl] at h6
   have hlen:(toStr xs).length = xs.length:=by simp [toStr]
   have hcell:∀ j c,(toStr xs)[j]? = some c → w.cell? ((⟨b',0,none⟩:Addr).add j) = some (.int .u8 c.toNat):=fun j c hj=>by
    obtain ⟨z,hz1,hz2⟩:∃ z,xs[j]? = some z ∧ UInt8.ofNat z.toNat = c:=by
     simp only [toStr,List.getElem?_map,Option.map_eq_some_iff] at hj
     exact hj
    obtain ⟨u,hu1,hu2⟩:=h6.get j (CP.int .u8 z) (by rw [List.getElem?_map,hz1]; rfl)
    obtain ⟨rfl,hr⟩:u = .int .u8 z ∧ kX .u8 z:=hu2
    have hjl:j < xs.length:=(List.getElem?_eq_some_iff.1 hz1).1
    rw [List.getElem?_take,if_pos hjl] at hu1
    have e2:((⟨b',0,none⟩:Addr).add j) = ⟨b',0 + j,none⟩:=by unfold Addr.add; split <;> simp_all
    rw [e2,gr h2,Nat.zero_add]
    have hz0:(0:Int) ≤ z ∧ z ≤ 255:=by simpa [kX,IntKind.min,IntKind.max,IntKind.signed,IntKind.bits] using hr
    have:((UInt8.ofNat z.toNat).toNat:Int) = z:=by
     have:(UInt8.ofNat z.toNat).toNat = z.toNat % 256:=by simp
     rw [this,Nat.mod_eq_of_lt (by omega)]
     omega
    rw [← hz2,this]
    simpa using hu1
   have hrun:=Lib.run_unsafeString_row (P:=P) (w:=w) pt it ty T hp hc b' cur.size (by simp [World.shape?,h2]) (toStr xs) (by intro e; apply hne; simpa [toStr] using e) (by rw [hlen]; omega) (by rw [hlen]; rw [c7] at h4; omega) hcell
   rw [hlen] at hrun
   obtain ⟨f1,f2,f3⟩:=H5 (w:=w) (a:=⟨b',0,none⟩) (m:=xs.length)
   refine ⟨.string ⟨(toStr xs).toArray⟩,.slice none 0 0,w.freeze ⟨b',0,none⟩ xs.length,some b',?_,fun b2 e=>?_,by omega,f1,f2,fun b2 _ hne2=>C6 (fun e=>hne2 (by rw [e])),⟨fun ps hps=>by simp at hps,by decide,[],⟨by simp,.inl ⟨rfl,rfl⟩⟩,.nil⟩,fun b2 e=>by simp [aZ] at e,rfl,?_⟩
   ·rw [execOp_builtin,C9]
    simp [hv,hy',hrun]
   ·cases e
    exact ⟨_,bh hk,by rw [h1]; rfl⟩
   ·show (toStr xs).length ≤ maxLen
    rw [hlen]; omega
theorem op_nilv:aR P E n ⟨dst,.assign (.const .nilIface),ty,pos,after,g⟩ s (s.put n dst (.b (.one .any))) :=
 aR.val (o:=⟨dst,.assign (.const .nilIface),ty,pos,after,g⟩) fun ac w h ρ hw hs=>⟨.nilIface,rfl,rfl⟩
end
end Go.Dn
namespace Go.Dn
open Go Go.Sk
set_option linter.unusedVariables false
set_option linter.unusedSimpArgs false
set_option linter.unusedSectionVars false
variable {D:Dt}
section
variable {P:Program} [DecidableEq D.σ] {TB:aF} (B0:Tb P D TB) (L:Lay D) {X:Type}
def bldx (ev:Operand → Option (T0 D)) (i:D.σ) (pl:List (Nat × Nat)):List (Nat × Operand) → D.T i → Option (D.T i)
 | [],v=>some v
 | p :: l,v=>(pl[p.1]?).bind fun q=>(ev p.2).bind fun a=>match a with
  | .d d u=>if q.2 = sz D d then (oy L d u 8 (.st i) v q.1).bind fun w=>bldx ev i pl l w else none
  | _=>none
def isXo (fr:Fr) (s:bE D) (o:Oper):Bool:=match o.op with
 | .store _ x y=>(match s.ev none x with
  | some (.p (.ptr k _))=>(match lk s.own k with
   | some (.x _ _ _ _ _ _)=>true
   | some (.box _ (.st i) _)=>(match s.ev none y with
    | some (.xv _ _)=>true
    | some (.p (.row _))=>!(D.xs i).contains .sp && (rof (D.xs i)).isSome
    | _=>false)
   | _=>(match s.ev none y with
    | some (.xv _ _)=>true
    | _=>false))
  | _=>false)
 | .box _ x=>(match s.ev none x with
  | some (.p (.ptr _ 0))=>true
  | _=>(match o.dst with
   | some d=>fr.rw.contains d
   | none=>false))
 | .alloc _ | .build _ _=>(match o.dst with
  | some d=>fr.rw.contains d
  | none=>false)
 | .call ⟨.builtin .append,_,⟨[t,t']⟩⟩=>t != t'
 | .buildSlice _ 1 ⟨[(0,.const (.agg _))]⟩=>(match o.dst with
  | some d=>!fr.rw.contains d
  | none=>false)
 | .call ⟨.builtin .unsafeSliceData,_,_⟩ | .call ⟨.builtin .unsafeString,_,_⟩ | .assign (.const .nilIface)=>true
 | _=>false
def opxX (s:bE D) (o:Oper) (K:Ef D → Option X):Option X:=match o.op with
 | .store t x y=>if o.dst = none then (s.ev none x).bind fun a=>(s.ev none y).bind fun b=>(match a with
  | .p (.ptr k off)=>(lk s.own k).bind fun c=>(match c with
   | .x T i k' kr fg v=>if k' = k ∧ off < D.n i then (B0.ty t).bind fun d=>if agg d = false then (match (D.xs i)[off]? with
    | some .c=>(gl d b).bind fun u=>(oy L d u 8 (.st i) v off).bind fun w=>K { z:=none,st:=[(k,.x T i k kr fg w)] }
    | some .r=>(match b with
     | .p (.row j)=>if j ≠ k ∧ rof (D.xs i) = some off then (match lk s.own j with
      | some (.row _ _ _)=>K { z:=none,st:=[(k,.x T i k j false v)] }
      | _=>none) else none
     | _=>none)
    | _=>none) else none else none
   | .box T (.st i) u=>(match b with
    | .xv i' v=>(B0.xz t).bind fun q=>if (off = 0 ∧ D.n i = D.n i') ∧ (q.i = i' ∧ D.xw i' v = false) then K { z:=none,st:=[(k,.x T i' k (Bo k) false v),(Bo k,.row q.Te q.d [])],nw:=[Bo k] } else none
    | .p (.row j)=>(B0.ty t).bind fun d=>if ((agg d = false ∧ off < D.n i) ∧ (j ≠ k ∧ rof (D.xs i) = some off)) ∧ ((D.xs i).length = D.n i ∧ (D.xs i).contains .sp = false) then (match lk s.own j with
     | some (.row _ _ _)=>K { z:=none,st:=[(k,.x T i k j false u)] }
     | _=>none) else none
    | _=>none)
   | .box T d0 u=>(match b with
    | .xv i v=>(B0.xz t).bind fun q=>if (off = 0 ∧ sz D d0 = D.n i) ∧ (q.i = i ∧ D.xw i v = false) then K { z:=none,st:=[(k,.x T i k (Bo k) false v),(Bo k,.row q.Te q.d [])],nw:=[Bo k] } else none
    | _=>none)
   | _=>none)
  | _=>none) else none
 | .alloc T=>(B0.xz T).bind fun q=>if D.xw q.i (D.z q.i) = false then K { z:=some (.n (.p (.ptr (key o.dst) 0))),st:=[(key o.dst,.x T q.i (key o.dst) (Bo (key o.dst)) false (D.z q.i)),(Bo (key o.dst),.row q.Te q.d [])],nw:=[key o.dst,Bo (key o.dst)] } else none
 | .box T x=>(s.ev none x).bind fun a=>(match a with
  | .xv i v=>(B0.xz T).bind fun q=>if q.i = i ∧ D.xw i v = false then K { z:=some (.n (.p (.ptr (key o.dst) 0))),st:=[(key o.dst,.x T i (key o.dst) (Bo (key o.dst)) false v),(Bo (key o.dst),.row q.Te q.d [])],nw:=[key o.dst,Bo (key o.dst)] } else none
  | .p (.ptr k' 0)=>if k' ≠ key o.dst then K { z:=some (.n (.p (.ptr (key o.dst) 0))),st:=[(key o.dst,.cp T k')],nw:=[key o.dst] } else none
  | _=>none)
 | .build t ps=>(B0.xz t).bind fun q=>if setC (D.xs q.i) q.pl (ps.toList.map (·.1)) = true then (bldx L (s.ev none) q.i q.pl ps.toList (D.z q.i)).bind fun v=>K { z:=some (.n (.xv q.i v)) } else none
 | .assign (.const .nilIface)=>K { z:=some (.n (.d .u ())) }
 | .buildSlice t 1 ⟨[(0,.const (.agg cs))]⟩=>(B0.ty t).bind fun d=>(match d with
  | .sl d=>(cvT L d (.agg cs)).bind fun z=>if ((F9 cs.toList).isSome = true ∧ cs.toList.length = sz D d) ∧ ((agg d = true ∧ 0 < sz D d) ∧ sz D d ≤ 16777216) then K { z:=some (.n (.d (.sl d) [z])) } else none
  | _=>none)
 | .call ⟨.builtin .append,⟨[x,y]⟩,⟨[t,t']⟩⟩=>(B0.el t (.int .u8)).bind fun e=>(match B0.ty t' with
  | some .str=>if B0.by_ e.1 = true then (s.ev none y).bind fun b=>(gl .str b).bind fun q=>(match s.ev none x with
   | some (.p (.row k))=>(match lk s.own k with
    | some (.row T d' l)=>if h:T = e.1 ∧ d' = .int .u8 then (Bu (show List (V D (.int .u8)) from h.2 ▸ l) q).bind fun z=>K { z:=some (.n (.p (.row k))),st:=[(k,.row T (.int .u8) z)],nw:=[k] } else none
    | _=>none)
   | _=>none) else none
  | _=>none)
 | .call ⟨.builtin .unsafeSliceData,⟨[x]⟩,⟨[t]⟩⟩=>(match s.ev none x with
  | some (.p (.row k))=>(match lk s.own k with
   | some (.row T d l)=>(Dj (!l.isEmpty)).bind fun _=>K { z:=some (.n (.p (.gh k 0))) }
   | _=>none)
  | _=>none)
 | .call ⟨.builtin .unsafeString,⟨[x,y]⟩,⟨[pt,it]⟩⟩=>(B0.up pt).bind fun e=>(match s.ev none x,s.ev none y with
  | some (.p (.gh k 0)),some (.d (.int .i64) m)=>(match lk s.own k with
   | some (.row T d l)=>if h:T = e ∧ d = .int .u8 then (Dj (decide ((m:Int) = ((show List (V D (.int .u8)) from h.2 ▸ l).length:Int)) && !(show List (V D (.int .u8)) from h.2 ▸ l).isEmpty)).bind fun _=>K { z:=some (.n (.d .str (toStr (show List (V D (.int .u8)) from h.2 ▸ l)))),st:=[(k,.row T (.int .u8) [])],nw:=[k] } else none
   | _=>none)
  | _,_=>none)
 | _=>none
end
section
variable {P:Program} [DecidableEq D.σ] {TB:aF} {B0:Tb P D TB} {L:Lay D} {X:Type} {E:Env TB} {n:Sh} {s s':bE D} {o:Oper} {s0:St} {K:Ef D → Option X} {r:X} {fr:Fr} {dst:Option Nat}
theorem Ho {s:St} {ev:Operand → Option (T0 D)} {i:D.σ} {pl:List (Nat × Nat)} (he:∀ x y,ev x = some y → s.ev x = some (.b y.bv)):∀ {l:List (Nat × Operand)} {v w:D.T i},bldx L ev i pl l v = some w → ∃ cps,eE s l = some cps ∧ ir (pl.toArray[·]?) (D.e i v) cps = some (D.e i w)
 | [],v,w,h=>by cases h; exact ⟨[],rfl,rfl⟩
 | (j,x) :: l,v,w,h=>by
  unfold bldx at h
  obtain ⟨q,hq,h1⟩:=aJ h
  obtain ⟨a,ha,h2⟩:=aJ h1
  split at h2
  ·next d u=>
   split at h2
   ·next hs=>
    obtain ⟨v',hv,h5⟩:=aJ h2
    obtain ⟨cps,e1,e2⟩:=Ho he h5
    obtain ⟨e3,e4⟩:=qT L d u 8 _ _ _ _ hv
    refine ⟨(j,enc D d u) :: cps,?_,?_⟩
    ·simp only [eE,he _ _ ha,Option.bind_some]
     rw [show (SV.b (T0.d d u).bv).cells = some (enc D d u) from xD,e1]
     rfl
    ·have hl:(enc D d u).length = sz D d:=ca
     have hl2:(D.e i v).length = sz D (.st i):=D.len i v
     simp only [ir,List.getElem?_toArray,hq,Option.bind_some]
     rw [if_pos ⟨by rw [hl]; exact hs.symm,by rw [hl,hl2]; exact e4⟩]
     rw [show Sk.aN (D.e i v) q.1 (enc D d u) = D.e i v' from e3]
     simpa only [List.getElem?_toArray] using e2
   ·cases h2
  ·cases h2
theorem cst_eq {v u:Value} {c:CP} {hh:PH} (hc:F' v = some c) (hr:c.rel hh u):u = v:=by
 unfold F' at hc
 split at hc <;> first | (split at hc <;> simp at hc <;> subst hc <;> simp_all [CP.int,CP.str]; done) | (simp at hc; subst hc; first | exact hr.1 | exact hr) | simp at hc
theorem Fw {hh:PH}:∀ {l us:List Value} {ps:List CP},F9 l = some ps → (ps.length = l.length ∧ ∀ (j:Nat) (c:CP) (u:Value),ps[j]? = some c → c.rel hh u → l[j]? = some u)
 | [],us,ps,h=>by cases h; exact ⟨rfl,fun j c u h=>by cases h⟩
 | v :: l,us,ps,h=>by
  unfold F9 at h
  obtain ⟨c,hc,h1⟩:=aJ h
  obtain ⟨qs,hq,e⟩:=Option.map_eq_some_iff.1 h1
  subst e
  obtain ⟨h2,h3⟩:=Fw (hh:=hh) (us:=us) hq
  refine ⟨by simp [h2],fun j c' u hj hr=>?_⟩
  cases j with
  | zero=>simp at hj; subst hj; rw [cst_eq hc hr]; rfl
  | succ j=>simp only [List.getElem?_cons_succ] at hj ⊢; exact h3 j c' u hj hr
theorem Eh {α β:Type} {r:α → β → Prop} {a:α} {b:β}:∀ {xs:List α} {ys:List β} {j:Nat},aQ r xs ys → xs[j]? = some a → ys[j]? = some b → r a b
 | _,_,0,.cons h _,h1,h2=>by simp at h1 h2; subst h1 h2; exact h
 | _,_,j + 1,.cons _ h,h1,h2=>by simp only [List.getElem?_cons_succ] at h1 h2; exact Eh h h1 h2
 | _,_,_,.nil,h1,_=>by simp at h1
theorem HX {t e ty:TypeId} {pos:String} {after:Array Edge} {g:Option (Nat × Bool)} {bytes:Nat} {zs ps:List CP} {d:DT D.σ} {z:V D d} {cs:Array Value} (hsl:kV P t e (sz D d) bytes zs) (hz:cvT L d (.agg cs) = some z) (hp:F9 cs.toList = some ps) (ha:agg d = true) (hl:ps.length = sz D d) (h0:0 < sz D d) (h24:sz D d ≤ 16777216) :
  aR P E n ⟨dst,.buildSlice t 1 ⟨[(0,.const (.agg cs))]⟩,ty,pos,after,g⟩ s0 (s0.put n dst (.b (.one (.sl (sz D d) [enc D d z])))):=by
 have hu:cb (sz D d) [ps]:=fun q hq=>by cases List.mem_singleton.1 hq; exact hl
 have h1:=s4 (P:=P) (E:=E) (n:=n) (dst:=dst) (ty:=ty) (pos:=pos) (after:=after) (g:=g) (s:=s0) (len:=1) (parts:=⟨[(0,.const (.agg cs))]⟩) (es:=[ps]) (cps:=[(0,ps)]) hsl (by
  simp only [eE,St.ev,hp]
  rfl) (tJ (j:=0) (pre:=[]) (es:=[ps]) hu (by simp) (by simp)) hu rfl (by simpa using h0) (by simpa using h24)
 refine aR.weak (o:=⟨dst,.buildSlice t 1 ⟨[(0,.const (.agg cs))]⟩,ty,pos,after,g⟩) h1 fun hh ρ v hv=>?_
 obtain ⟨e1,e2,e3⟩:=(hv:(CP.sl (sz D d) [ps]).rel hh v)
 have hu2:cb (sz D d) [enc D d z]:=fun q hq=>by cases List.mem_singleton.1 hq; exact ca
 refine (show (CP.sl (sz D d) [enc D d z]).rel hh v from ⟨hu2,e2,?_⟩)
 rcases e3 with ⟨_,e⟩ | ⟨b,o,c,e4,e5,e6,e7⟩ | ⟨_,_,e⟩
 ·cases e
 ·refine .inr (.inl ⟨b,o,c,e4,e5,e6,fun j c' hc=>?_⟩)
  have hr:=Jx hz hh ρ
  rw [lg ha] at hr
  obtain ⟨cs',ec,hall⟩:=hr
  cases ec
  simp only [List.flatten_cons,List.flatten_nil,List.append_nil] at hc e7 ⊢
  have hj:j < ps.length:=by rw [hl,← ca (v:=z)]; exact (List.getElem?_eq_some_iff.1 hc).1
  obtain ⟨u,hu',hr⟩:=e7 j _ (List.getElem?_eq_getElem hj)
  have h3:=(Fw (hh:=hh) (us:=[]) hp).2 j _ u (List.getElem?_eq_getElem hj) hr
  refine ⟨u,hu',?_⟩
  exact Eh (r:=fun (c:CP) v=>c.rel hh v) hall hc h3
 ·cases e
theorem opxX_ok (h:opxX B0 L s o K = some r):∃ e,K e = some r ∧ ∀ s0,qu s s0 → HE n s0 e → aR P E n o s0 (e.ap n s.Γ o.dst s0):=by
 obtain ⟨dst,op,ty,pos,after,g⟩:=o
 unfold opxX at h
 split at h
 ·next t x y ho=>
  split at h
  ·next hd=>
   simp only at hd ho
   subst hd ho
   obtain ⟨a,ha,h1⟩:=aJ h
   obtain ⟨b,hb,h2⟩:=aJ h1
   split at h2
   ·next k off=>
    obtain ⟨c,hc,h3⟩:=aJ h2
    split at h3
    ·next T i k' kr fg v=>
     split at h3
     ·next hk=>
      obtain ⟨rfl,hoff⟩:=hk
      obtain ⟨d,ht,h4⟩:=aJ h3
      have ht:=B0.tok _ _ ht
      split at h4
      ·next hag=>
       split at h4
       ·next hxs=>
        obtain ⟨u,hu,h5⟩:=aJ h4
        obtain ⟨w,hw,h6⟩:=aJ h5
        cases df hu
        ·refine ⟨_,h6,fun s0 hs _=>?_⟩
         have hk':lk s0.own k' = some (.ba T (kW k' kr fg (D.xs i) (D.e i v))):=hs.own _ _ hc
         have hy:=hs.ev hb
         obtain ⟨p,e3,e4⟩:=ky (v:=u) hag
         have hy':s0.ev y = some (.b (.one p)):=by rw [hy]; show some (SV.b (iC D d u)) = _; rw [e3]
         obtain ⟨e1,e2⟩:=qT L d u 8 _ _ _ _ hw
         have hlen:(D.e i v).length = D.n i:=D.len i v
         have hsp:(D.e i v).set off p = D.e i w:=by
          have e1':Sk.aN (D.e i v) off (enc D d u) = D.e i w:=e1
          rw [← e1',e4]
          simp only [Sk.aN,List.length_singleton]
          rw [List.set_eq_take_append_cons_drop,if_pos (by rw [hlen]; exact hoff)]
          simp
         have hxl:off < (kW k' kr fg (D.xs i) (D.e i v)).length:=by
          have:=vz (k:=k') (kr:=kr) (fg:=fg) hxs (List.getElem?_eq_getElem (by rw [hlen]; exact hoff))
          exact (List.getElem?_eq_some_iff.1 this).1
         exact eU (py ht hag) (hs.ev ha) hk' hy' rfl hxl (by rw [GA hxs,hsp])
       ·next hxs=>
        split at h4
        ·next j=>
         split at h4
         ·next hj=>
          obtain ⟨hjk,hro⟩:=hj
          obtain ⟨hr1,hr2,hr3⟩:=Cb hro
          split at h4
          ·next Tr dr lr hrow=>
           refine ⟨_,h4,fun s0 hs _=>?_⟩
           have hk':lk s0.own k' = some (.ba T (kW k' kr fg (D.xs i) (D.e i v))):=hs.own _ _ hc
           have hrow':lk s0.own j = some (.row Tr (sz D dr) (lr.map (enc D dr))):=hs.own _ _ hrow
           have hlen:(D.e i v).length = D.n i:=D.len i v
           have hxl:off < (kW k' kr fg (D.xs i) (D.e i v)).length:=by
            have:=vz (k:=k') (kr:=kr) (fg:=fg) hxs (List.getElem?_eq_getElem (by rw [hlen]; exact hoff))
            exact (List.getElem?_eq_some_iff.1 this).1
           exact eU (py ht hag) (hs.ev ha) hk' (hs.ev hb) (by show BV.mo s0.own (.row j) = true; simp only [BV.mo]; rw [hrow']) hxl (GB hr1 hr2 hr3)
          ·cases h4
         ·cases h4
        ·cases h4
       ·cases h4
      ·cases h4
     ·cases h3
    ·next T i u=>
     split at h3
     ·next i' v=>
      obtain ⟨q,hq,h4⟩:=aJ h3
      have hq:=B0.xzo _ _ hq
      split at h4
      ·next hc2=>
       obtain ⟨⟨rfl,hs0⟩,rfl,hw⟩:=hc2
       refine ⟨_,h4,fun s0 hs hn=>?_⟩
       have hk':lk s0.own k = some (.box T (D.e i u)):=hs.own _ _ hc
       have hl:(D.e i u).length = D.n i:=D.len i u
       have hzl:(Bn (D.xs q.i) (D.e q.i v)).length = D.n q.i:=by rw [vy (by rw [D.len]; exact hq.l),D.len]
       obtain ⟨g1,g2⟩:=hq.r v hw
       obtain ⟨hnu,hfx⟩:=hn.1.1 (Bo k) List.mem_cons_self
       refine y5 (res:=.kU []) (Te:=q.Te) rfl hq.s w4 hfx hnu g1 (g2 k (Bo k)) none ?_
       exact aW hq.ag (hs.ev ha) hk' (hs.ev hb) hzl (by rw [hl,hs0]; omega) (by
        simp only [Sk.aN,hzl]
        rw [List.drop_eq_nil_of_le (by rw [hl,hs0]; omega)]
        simp)
      ·cases h4
     ·next j=>
      obtain ⟨d,ht,h4⟩:=aJ h3
      have ht:=B0.tok _ _ ht
      split at h4
      ·next hc2=>
       obtain ⟨⟨⟨hag,hoff⟩,hjk,hro⟩,hxl,hsp⟩:=hc2
       obtain ⟨hr1,hr2,hr3⟩:=Cb hro
       split at h4
       ·next Tr dr lr hrow=>
        refine ⟨_,h4,fun s0 hs _=>?_⟩
        have hk':lk s0.own k = some (.box T (D.e i u)):=hs.own _ _ hc
        have hrow':lk s0.own j = some (.row Tr (sz D dr) (lr.map (enc D dr))):=hs.own _ _ hrow
        have hlen:(D.e i u).length = D.n i:=D.len i u
        refine Eo (py ht hag) (hs.ev ha) hk' (hs.ev hb) hjk (by show BV.mo s0.own (.row j) = true; simp only [BV.mo]; rw [hrow']) (by rw [hlen]; exact hoff) ?_
        exact DU (by rw [hxl,hlen]) hsp hr1 hr2 hr3
       ·cases h4
      ·cases h4
     ·cases h3
    ·next T d0 u hnst=>
     split at h3
     ·next i v=>
      obtain ⟨q,hq,h4⟩:=aJ h3
      have hq:=B0.xzo _ _ hq
      split at h4
      ·next hc2=>
       obtain ⟨⟨rfl,hs0⟩,rfl,hw⟩:=hc2
       refine ⟨_,h4,fun s0 hs hn=>?_⟩
       have hk':lk s0.own k = some (.box T (enc D d0 u)):=hs.own _ _ hc
       have hl:(enc D d0 u).length = sz D d0:=ca
       have hzl:(Bn (D.xs q.i) (D.e q.i v)).length = D.n q.i:=by rw [vy (by rw [D.len]; exact hq.l),D.len]
       obtain ⟨g1,g2⟩:=hq.r v hw
       obtain ⟨hnu,hfx⟩:=hn.1.1 (Bo k) List.mem_cons_self
       refine y5 (res:=.kU []) (Te:=q.Te) rfl hq.s w4 hfx hnu g1 (g2 k (Bo k)) none ?_
       exact aW hq.ag (hs.ev ha) hk' (hs.ev hb) hzl (by rw [hl,hs0]; omega) (by
        simp only [Sk.aN,hzl]
        rw [List.drop_eq_nil_of_le (by rw [hl,hs0]; omega)]
        simp)
      ·cases h4
     ·cases h3
    ·cases h3
   ·cases h2
  ·cases h
 ·next T ho=>
  simp only at ho
  subst ho
  obtain ⟨q,hq,h1⟩:=aJ h
  have hq:=B0.xzo _ _ hq
  split at h1
  ·next hw=>
   refine ⟨_,h1,fun s0 hs hn=>?_⟩
   obtain ⟨hnu,hfx⟩:=hn.1.1 (key dst) List.mem_cons_self
   obtain ⟨hnu2,hfx2⟩:=hn.1.1 (Bo (key dst)) (List.mem_cons_of_mem _ List.mem_cons_self)
   obtain ⟨g1,g2⟩:=hq.r _ hw
   exact y5 (res:=.b (.ptr (key dst) 0)) (Te:=q.Te) (by simpa [SV.bd,BV.bd] using w4) hq.s w4 hfx2 hnu2 g1 (g2 _ _) dst (Am hq.z hfx hnu)
  ·cases h1
 ·next T x ho=>
  simp only at ho
  subst ho
  obtain ⟨a,ha,h1⟩:=aJ h
  split at h1
  ·next i v=>
   obtain ⟨q,hq,h2⟩:=aJ h1
   have hq:=B0.xzo _ _ hq
   split at h2
   ·next hc=>
    obtain ⟨rfl,hw⟩:=hc
    refine ⟨_,h2,fun s0 hs hn=>?_⟩
    obtain ⟨hnu,hfx⟩:=hn.1.1 (key dst) List.mem_cons_self
    obtain ⟨hnu2,hfx2⟩:=hn.1.1 (Bo (key dst)) (List.mem_cons_of_mem _ List.mem_cons_self)
    obtain ⟨g1,g2⟩:=hq.r _ hw
    exact y5 (res:=.b (.ptr (key dst) 0)) (Te:=q.Te) (by simpa [SV.bd,BV.bd] using w4) hq.s w4 hfx2 hnu2 g1 (g2 _ _) dst (wZ (hs.ev ha) hfx hnu)
   ·cases h2
  ·next k'=>
   split at h1
   ·next hne=>
    refine ⟨_,h1,fun s0 hs hn=>?_⟩
    obtain ⟨hnu,hfx⟩:=hn.1.1 (key dst) List.mem_cons_self
    exact BG (hs.ev ha) rfl hfx (by simpa [BV.bd] using hne) hnu
   ·cases h1
  ·cases h1
 ·next t ps ho=>
  simp only at ho
  subst ho
  obtain ⟨q,hq,h1⟩:=aJ h
  have hq:=B0.xzo _ _ hq
  split at h1
  ·next hsc=>
   obtain ⟨v,hv,h2⟩:=aJ h1
   refine ⟨_,h2,fun s0 hs hn=>?_⟩
   obtain ⟨cps,e1,e2⟩:=Ho (fun x y e=>hs.ev e) hv
   exact u6 hq.b e1 (BS (by rw [D.len]; exact hq.l) (by rw [wz e1]; exact hsc) e2)
  ·cases h1
 ·next ho=>
  simp only at ho
  subst ho
  exact ⟨_,h,fun s0 hs _=>op_nilv⟩
 ·next t cs ho=>
  simp only at ho
  subst ho
  obtain ⟨d0,ht,h1⟩:=aJ h
  have ht:=B0.tok _ _ ht
  split at h1
  ·next d=>
   obtain ⟨z,hz,h2⟩:=aJ h1
   split at h2
   ·next hc=>
    obtain ⟨⟨c1,c2⟩,⟨c3,c4⟩,c5⟩:=hc
    obtain ⟨_,et,bytes,zs,hsl⟩:=ht
    obtain ⟨ps,hp⟩:=Option.isSome_iff_exists.1 c1
    refine ⟨_,h2,fun s0 hs _=>?_⟩
    exact HX hsl hz hp c3 (by rw [(Fw (hh:=fun _ _=>none) (us:=[]) hp).1,c2]) c4 c5
   ·cases h2
  ·cases h1
 ·next x y t t' ho=>
  simp only at ho
  subst ho
  obtain ⟨e,he,h1⟩:=aJ h
  obtain ⟨et,bytes⟩:=e
  obtain ⟨zs,hsl,hzc⟩:=B0.elo _ _ _ _ he
  split at h1
  ·next ht'=>
   split at h1
   ·next hby=>
    obtain ⟨b,hb,h2⟩:=aJ h1
    obtain ⟨q,hq,h3⟩:=aJ h2
    cases df hq
    split at h3
    ·next k hx=>
     split at h3
     ·next T d' l hk=>
      split at h3
      ·next hT=>
       obtain ⟨hT1,hT2⟩:=hT
       simp only at hT1
       subst hT1 hT2
       obtain ⟨z,hz,h4⟩:=aJ h3
       refine ⟨_,h4,fun s0 hs hn=>?_⟩
       obtain ⟨hnu,hfx⟩:=hn.1.1 _ List.mem_cons_self
       exact Ba hsl.und (B0.tok _ _ ht').1 (B0.byo _ hby) hz (hs.ev hx) (hs.own _ _ hk) (hs.ev hb) hfx hnu
      ·cases h3
     ·cases h3
    ·cases h3
   ·cases h1
  ·cases h1
 ·next x t ho=>
  simp only at ho
  subst ho
  split at h
  ·next k hx=>
   split at h
   ·next T d l hk=>
    obtain ⟨_,hr,h1⟩:=aJ h
    refine ⟨_,h1,fun s0 hs _=>?_⟩
    have hne:l ≠ []:=by
     intro e
     subst e
     simp [Dj] at hr
    exact op_usd (hs.ev hx) (hs.own _ _ hk) (by simpa using hne)
   ·cases h
  ·cases h
 ·next x y pt it ho=>
  simp only at ho
  subst ho
  obtain ⟨e,he,h1⟩:=aJ h
  obtain ⟨u1,u2⟩:=B0.upo _ _ he
  split at h1
  ·next k m hx hy=>
   split at h1
   ·next T d l hk=>
    split at h1
    ·next hT=>
     obtain ⟨rfl,rfl⟩:=hT
     obtain ⟨w9,hr,h2⟩:=aJ h1
     refine ⟨_,h2,fun s0 hs hn=>?_⟩
     obtain ⟨hnu,hfx⟩:=hn.1.1 _ List.mem_cons_self
     have key:∀ {b:Bool} {w:Unit},Dj b = some w → b = true:=by
      intro b w h
      cases b with
      | true=>rfl
      | false=>cases h
     have hb:=key hr
     simp only [Bool.and_eq_true,decide_eq_true_eq,Bool.not_eq_true',List.isEmpty_eq_false_iff] at hb
     have hm:(m:Int) = ((show List (V D (.int .u8)) from l).length:Int):=hb.1
     have hy':=hs.ev hy
     refine op_ustr u1 u2 (hs.ev hx) ?_ (hs.own _ _ hk) hb.2 hfx hnu
     rw [hy']
     show some (SV.b (BV.one (CP.int .i64 m))) = _
     rw [hm]
    ·cases h1
   ·cases h1
  ·cases h1
 ·cases h
end
end Go.Dn
