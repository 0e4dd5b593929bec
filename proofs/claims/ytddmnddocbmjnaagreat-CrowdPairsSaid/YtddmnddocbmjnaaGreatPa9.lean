/- Part 9 of the proof: CrowdPairs: whatever plain data comes in, the call returns true and leaves its arguments as they were. No condition. -/
import Derived.Test.YtddmnddocbmjnaaGreatPa8
set_option linter.all false
set_option linter.unusedVariables false
set_option linter.unusedSectionVars false
set_option linter.unusedSimpArgs false
namespace Go.Proofs.YtddmnddocbmjnaaGreat.Dv
abbrev LL (l : List (List Int)) : PDV := .lst (l.map L)
structure VGrid where
  weeks : Int
  days : Int
  slots : Int
  deriving DecidableEq
def VGrid.P (x : VGrid) : PDV := .agg [I x.weeks, I x.days, I x.slots]
theorem VGrid_len (x : VGrid) : x.P.cells.length = 3 := rfl
theorem VGrid_dlen (x : VGrid) : (DV.cells (.p x.P)).length = 3 := rfl
theorem VGrid_dc (x : VGrid) : DV.cells (.p x.P) = x.P.cells.map .p := rfl
theorem VGrid_tup (x : VGrid) : (DV.p x.P).tupB = false := rfl
theorem VGrid_ld (x : VGrid) {h : PT AObj} : ldX true 3 (.p (.rp x.P.cells)) h = some { dv := .p x.P } := rfl
theorem VGrid_ldb (x : VGrid) : mkAgg ((DV.cells (.p x.P)).take 3) = .p x.P := rfl
theorem VGrid_setb (x y : VGrid) : setAt (DV.cells (.p x.P)) 0 (DV.cells (.p y.P)) = DV.cells (.p y.P) := rfl
theorem VGrid_st (x : VGrid) {a0 a1 a2 : DV} : setAt [a0, a1, a2] 0 (DV.cells (.p x.P)) = DV.cells (.p x.P) := rfl
theorem VGrid_f_weeks (x : VGrid) : fldX false 0 1 (.p x.P) = some (.p (I x.weeks)) := rfl
theorem VGrid_r_weeks (x : VGrid) {h : PT AObj} : ldX false 1 (.p (.rp (x.P.cells))) h = some { dv := .p (I x.weeks) } := rfl
theorem VGrid_b_weeks (x : VGrid) : (DV.cells (.p x.P))[0]? = some (.p (I x.weeks)) := rfl
theorem VGrid_f_days (x : VGrid) : fldX false 1 1 (.p x.P) = some (.p (I x.days)) := rfl
theorem VGrid_r_days (x : VGrid) {h : PT AObj} : ldX false 1 (.p (.rp ((x.P.cells).drop 1))) h = some { dv := .p (I x.days) } := rfl
theorem VGrid_b_days (x : VGrid) : (DV.cells (.p x.P))[1]? = some (.p (I x.days)) := rfl
theorem VGrid_f_slots (x : VGrid) : fldX false 2 1 (.p x.P) = some (.p (I x.slots)) := rfl
theorem VGrid_r_slots (x : VGrid) {h : PT AObj} : ldX false 1 (.p (.rp ((x.P.cells).drop 2))) h = some { dv := .p (I x.slots) } := rfl
theorem VGrid_b_slots (x : VGrid) : (DV.cells (.p x.P))[2]? = some (.p (I x.slots)) := rfl
structure VWhen where
  weeks : Fin 4294967296
  days : Fin 256
  start : Int
  len : Int
  deriving DecidableEq
def VWhen.P (x : VWhen) : PDV := .agg [.s (.int .u32 (x.weeks.val : Int)), .s (.int .u8 (x.days.val : Int)), I x.start, I x.len]
theorem VWhen_len (x : VWhen) : x.P.cells.length = 4 := rfl
theorem VWhen_dlen (x : VWhen) : (DV.cells (.p x.P)).length = 4 := rfl
theorem VWhen_dc (x : VWhen) : DV.cells (.p x.P) = x.P.cells.map .p := rfl
theorem VWhen_tup (x : VWhen) : (DV.p x.P).tupB = false := rfl
theorem VWhen_ld (x : VWhen) {h : PT AObj} : ldX true 4 (.p (.rp x.P.cells)) h = some { dv := .p x.P } := rfl
theorem VWhen_ldb (x : VWhen) : mkAgg ((DV.cells (.p x.P)).take 4) = .p x.P := rfl
theorem VWhen_setb (x y : VWhen) : setAt (DV.cells (.p x.P)) 0 (DV.cells (.p y.P)) = DV.cells (.p y.P) := rfl
theorem VWhen_st (x : VWhen) {a0 a1 a2 a3 : DV} : setAt [a0, a1, a2, a3] 0 (DV.cells (.p x.P)) = DV.cells (.p x.P) := rfl
theorem VWhen_f_weeks (x : VWhen) : fldX false 0 1 (.p x.P) = some (.p (.s (.int .u32 (x.weeks.val : Int)))) := rfl
theorem VWhen_r_weeks (x : VWhen) {h : PT AObj} : ldX false 1 (.p (.rp (x.P.cells))) h = some { dv := .p (.s (.int .u32 (x.weeks.val : Int))) } := rfl
theorem VWhen_b_weeks (x : VWhen) : (DV.cells (.p x.P))[0]? = some (.p (.s (.int .u32 (x.weeks.val : Int)))) := rfl
theorem VWhen_f_days (x : VWhen) : fldX false 1 1 (.p x.P) = some (.p (.s (.int .u8 (x.days.val : Int)))) := rfl
theorem VWhen_r_days (x : VWhen) {h : PT AObj} : ldX false 1 (.p (.rp ((x.P.cells).drop 1))) h = some { dv := .p (.s (.int .u8 (x.days.val : Int))) } := rfl
theorem VWhen_b_days (x : VWhen) : (DV.cells (.p x.P))[1]? = some (.p (.s (.int .u8 (x.days.val : Int)))) := rfl
theorem VWhen_f_start (x : VWhen) : fldX false 2 1 (.p x.P) = some (.p (I x.start)) := rfl
theorem VWhen_r_start (x : VWhen) {h : PT AObj} : ldX false 1 (.p (.rp ((x.P.cells).drop 2))) h = some { dv := .p (I x.start) } := rfl
theorem VWhen_b_start (x : VWhen) : (DV.cells (.p x.P))[2]? = some (.p (I x.start)) := rfl
theorem VWhen_f_len (x : VWhen) : fldX false 3 1 (.p x.P) = some (.p (I x.len)) := rfl
theorem VWhen_r_len (x : VWhen) {h : PT AObj} : ldX false 1 (.p (.rp ((x.P.cells).drop 3))) h = some { dv := .p (I x.len) } := rfl
theorem VWhen_b_len (x : VWhen) : (DV.cells (.p x.P))[3]? = some (.p (I x.len)) := rfl
structure VRoom where
  name : ByteArray
  seats : Int
  gear : Fin 65536
  shut : List VWhen
  deriving DecidableEq
def VRoom.P (x : VRoom) : PDV := .agg [.s (.string x.name), I x.seats, .s (.int .u16 (x.gear.val : Int)), .lst (x.shut.map VWhen.P)]
theorem VRoom_len (x : VRoom) : x.P.cells.length = 4 := rfl
theorem VRoom_dlen (x : VRoom) : (DV.cells (.p x.P)).length = 4 := rfl
theorem VRoom_dc (x : VRoom) : DV.cells (.p x.P) = x.P.cells.map .p := rfl
theorem VRoom_tup (x : VRoom) : (DV.p x.P).tupB = false := rfl
theorem VRoom_ld (x : VRoom) {h : PT AObj} : ldX true 4 (.p (.rp x.P.cells)) h = some { dv := .p x.P } := rfl
theorem VRoom_ldb (x : VRoom) : mkAgg ((DV.cells (.p x.P)).take 4) = .p x.P := rfl
theorem VRoom_setb (x y : VRoom) : setAt (DV.cells (.p x.P)) 0 (DV.cells (.p y.P)) = DV.cells (.p y.P) := rfl
theorem VRoom_st (x : VRoom) {a0 a1 a2 a3 : DV} : setAt [a0, a1, a2, a3] 0 (DV.cells (.p x.P)) = DV.cells (.p x.P) := rfl
theorem VRoom_f_name (x : VRoom) : fldX false 0 1 (.p x.P) = some (.p (.s (.string x.name))) := rfl
theorem VRoom_r_name (x : VRoom) {h : PT AObj} : ldX false 1 (.p (.rp (x.P.cells))) h = some { dv := .p (.s (.string x.name)) } := rfl
theorem VRoom_b_name (x : VRoom) : (DV.cells (.p x.P))[0]? = some (.p (.s (.string x.name))) := rfl
theorem VRoom_f_seats (x : VRoom) : fldX false 1 1 (.p x.P) = some (.p (I x.seats)) := rfl
theorem VRoom_r_seats (x : VRoom) {h : PT AObj} : ldX false 1 (.p (.rp ((x.P.cells).drop 1))) h = some { dv := .p (I x.seats) } := rfl
theorem VRoom_b_seats (x : VRoom) : (DV.cells (.p x.P))[1]? = some (.p (I x.seats)) := rfl
theorem VRoom_f_gear (x : VRoom) : fldX false 2 1 (.p x.P) = some (.p (.s (.int .u16 (x.gear.val : Int)))) := rfl
theorem VRoom_r_gear (x : VRoom) {h : PT AObj} : ldX false 1 (.p (.rp ((x.P.cells).drop 2))) h = some { dv := .p (.s (.int .u16 (x.gear.val : Int))) } := rfl
theorem VRoom_b_gear (x : VRoom) : (DV.cells (.p x.P))[2]? = some (.p (.s (.int .u16 (x.gear.val : Int)))) := rfl
theorem VRoom_f_shut (x : VRoom) : fldX false 3 1 (.p x.P) = some (.p (.lst (x.shut.map VWhen.P))) := rfl
theorem VRoom_r_shut (x : VRoom) {h : PT AObj} : ldX false 1 (.p (.rp ((x.P.cells).drop 3))) h = some { dv := .p (.lst (x.shut.map VWhen.P)) } := rfl
theorem VRoom_b_shut (x : VRoom) : (DV.cells (.p x.P))[3]? = some (.p (.lst (x.shut.map VWhen.P))) := rfl
structure VPerson where
  name : ByteArray
  away : List VWhen
  deriving DecidableEq
def VPerson.P (x : VPerson) : PDV := .agg [.s (.string x.name), .lst (x.away.map VWhen.P)]
theorem VPerson_len (x : VPerson) : x.P.cells.length = 2 := rfl
theorem VPerson_dlen (x : VPerson) : (DV.cells (.p x.P)).length = 2 := rfl
theorem VPerson_dc (x : VPerson) : DV.cells (.p x.P) = x.P.cells.map .p := rfl
theorem VPerson_tup (x : VPerson) : (DV.p x.P).tupB = false := rfl
theorem VPerson_ld (x : VPerson) {h : PT AObj} : ldX true 2 (.p (.rp x.P.cells)) h = some { dv := .p x.P } := rfl
theorem VPerson_ldb (x : VPerson) : mkAgg ((DV.cells (.p x.P)).take 2) = .p x.P := rfl
theorem VPerson_setb (x y : VPerson) : setAt (DV.cells (.p x.P)) 0 (DV.cells (.p y.P)) = DV.cells (.p y.P) := rfl
theorem VPerson_st (x : VPerson) {a0 a1 : DV} : setAt [a0, a1] 0 (DV.cells (.p x.P)) = DV.cells (.p x.P) := rfl
theorem VPerson_f_name (x : VPerson) : fldX false 0 1 (.p x.P) = some (.p (.s (.string x.name))) := rfl
theorem VPerson_r_name (x : VPerson) {h : PT AObj} : ldX false 1 (.p (.rp (x.P.cells))) h = some { dv := .p (.s (.string x.name)) } := rfl
theorem VPerson_b_name (x : VPerson) : (DV.cells (.p x.P))[0]? = some (.p (.s (.string x.name))) := rfl
theorem VPerson_f_away (x : VPerson) : fldX false 1 1 (.p x.P) = some (.p (.lst (x.away.map VWhen.P))) := rfl
theorem VPerson_r_away (x : VPerson) {h : PT AObj} : ldX false 1 (.p (.rp ((x.P.cells).drop 1))) h = some { dv := .p (.lst (x.away.map VWhen.P)) } := rfl
theorem VPerson_b_away (x : VPerson) : (DV.cells (.p x.P))[1]? = some (.p (.lst (x.away.map VWhen.P))) := rfl
structure VTime where
  when : VWhen
  cost : Int
  deriving DecidableEq
def VTime.P (x : VTime) : PDV := .agg [.s (.int .u32 (x.when.weeks.val : Int)), .s (.int .u8 (x.when.days.val : Int)), I x.when.start, I x.when.len, I x.cost]
theorem VTime_len (x : VTime) : x.P.cells.length = 5 := rfl
theorem VTime_dlen (x : VTime) : (DV.cells (.p x.P)).length = 5 := rfl
theorem VTime_dc (x : VTime) : DV.cells (.p x.P) = x.P.cells.map .p := rfl
theorem VTime_tup (x : VTime) : (DV.p x.P).tupB = false := rfl
theorem VTime_ld (x : VTime) {h : PT AObj} : ldX true 5 (.p (.rp x.P.cells)) h = some { dv := .p x.P } := rfl
theorem VTime_ldb (x : VTime) : mkAgg ((DV.cells (.p x.P)).take 5) = .p x.P := rfl
theorem VTime_setb (x y : VTime) : setAt (DV.cells (.p x.P)) 0 (DV.cells (.p y.P)) = DV.cells (.p y.P) := rfl
theorem VTime_st (x : VTime) {a0 a1 a2 a3 a4 : DV} : setAt [a0, a1, a2, a3, a4] 0 (DV.cells (.p x.P)) = DV.cells (.p x.P) := rfl
theorem VTime_f_when (x : VTime) : fldX true 0 4 (.p x.P) = some (.p (x.when).P) := rfl
theorem VTime_r_when (x : VTime) {h : PT AObj} : ldX true 4 (.p (.rp (x.P.cells))) h = some { dv := .p (x.when).P } := rfl
theorem VTime_b_when (x : VTime) : mkAgg (((DV.cells (.p x.P))).take 4) = .p (x.when).P := rfl
theorem VTime_r_when_weeks (x : VTime) {h : PT AObj} : ldX false 1 (.p (.rp ((x.P.cells)))) h = some { dv := .p (.s (.int .u32 (x.when.weeks.val : Int))) } := rfl
theorem VTime_b_when_weeks (x : VTime) : (DV.cells (.p x.P))[0]? = some (.p (.s (.int .u32 (x.when.weeks.val : Int)))) := rfl
theorem VTime_r_when_days (x : VTime) {h : PT AObj} : ldX false 1 (.p (.rp (((x.P.cells)).drop 1))) h = some { dv := .p (.s (.int .u8 (x.when.days.val : Int))) } := rfl
theorem VTime_b_when_days (x : VTime) : (DV.cells (.p x.P))[1]? = some (.p (.s (.int .u8 (x.when.days.val : Int)))) := rfl
theorem VTime_r_when_start (x : VTime) {h : PT AObj} : ldX false 1 (.p (.rp (((x.P.cells)).drop 2))) h = some { dv := .p (I x.when.start) } := rfl
theorem VTime_b_when_start (x : VTime) : (DV.cells (.p x.P))[2]? = some (.p (I x.when.start)) := rfl
theorem VTime_r_when_len (x : VTime) {h : PT AObj} : ldX false 1 (.p (.rp (((x.P.cells)).drop 3))) h = some { dv := .p (I x.when.len) } := rfl
theorem VTime_b_when_len (x : VTime) : (DV.cells (.p x.P))[3]? = some (.p (I x.when.len)) := rfl
theorem VTime_f_cost (x : VTime) : fldX false 4 1 (.p x.P) = some (.p (I x.cost)) := rfl
theorem VTime_r_cost (x : VTime) {h : PT AObj} : ldX false 1 (.p (.rp ((x.P.cells).drop 4))) h = some { dv := .p (I x.cost) } := rfl
theorem VTime_b_cost (x : VTime) : (DV.cells (.p x.P))[4]? = some (.p (I x.cost)) := rfl
structure VPlace where
  room : Int
  cost : Int
  deriving DecidableEq
def VPlace.P (x : VPlace) : PDV := .agg [I x.room, I x.cost]
theorem VPlace_len (x : VPlace) : x.P.cells.length = 2 := rfl
theorem VPlace_dlen (x : VPlace) : (DV.cells (.p x.P)).length = 2 := rfl
theorem VPlace_dc (x : VPlace) : DV.cells (.p x.P) = x.P.cells.map .p := rfl
theorem VPlace_tup (x : VPlace) : (DV.p x.P).tupB = false := rfl
theorem VPlace_ld (x : VPlace) {h : PT AObj} : ldX true 2 (.p (.rp x.P.cells)) h = some { dv := .p x.P } := rfl
theorem VPlace_ldb (x : VPlace) : mkAgg ((DV.cells (.p x.P)).take 2) = .p x.P := rfl
theorem VPlace_setb (x y : VPlace) : setAt (DV.cells (.p x.P)) 0 (DV.cells (.p y.P)) = DV.cells (.p y.P) := rfl
theorem VPlace_st (x : VPlace) {a0 a1 : DV} : setAt [a0, a1] 0 (DV.cells (.p x.P)) = DV.cells (.p x.P) := rfl
theorem VPlace_f_room (x : VPlace) : fldX false 0 1 (.p x.P) = some (.p (I x.room)) := rfl
theorem VPlace_r_room (x : VPlace) {h : PT AObj} : ldX false 1 (.p (.rp (x.P.cells))) h = some { dv := .p (I x.room) } := rfl
theorem VPlace_b_room (x : VPlace) : (DV.cells (.p x.P))[0]? = some (.p (I x.room)) := rfl
theorem VPlace_f_cost (x : VPlace) : fldX false 1 1 (.p x.P) = some (.p (I x.cost)) := rfl
theorem VPlace_r_cost (x : VPlace) {h : PT AObj} : ldX false 1 (.p (.rp ((x.P.cells).drop 1))) h = some { dv := .p (I x.cost) } := rfl
theorem VPlace_b_cost (x : VPlace) : (DV.cells (.p x.P))[1]? = some (.p (I x.cost)) := rfl
structure VClass where
  name : ByteArray
  seats : Int
  gear : Fin 65536
  persons : List Int
  times : List VTime
  places : List VPlace
  over : Int
  deriving DecidableEq
def VClass.P (x : VClass) : PDV := .agg [.s (.string x.name), I x.seats, .s (.int .u16 (x.gear.val : Int)), L x.persons, .lst (x.times.map VTime.P), .lst (x.places.map VPlace.P), I x.over]
theorem VClass_len (x : VClass) : x.P.cells.length = 7 := rfl
theorem VClass_dlen (x : VClass) : (DV.cells (.p x.P)).length = 7 := rfl
theorem VClass_dc (x : VClass) : DV.cells (.p x.P) = x.P.cells.map .p := rfl
theorem VClass_tup (x : VClass) : (DV.p x.P).tupB = false := rfl
theorem VClass_ld (x : VClass) {h : PT AObj} : ldX true 7 (.p (.rp x.P.cells)) h = some { dv := .p x.P } := rfl
theorem VClass_ldb (x : VClass) : mkAgg ((DV.cells (.p x.P)).take 7) = .p x.P := rfl
theorem VClass_setb (x y : VClass) : setAt (DV.cells (.p x.P)) 0 (DV.cells (.p y.P)) = DV.cells (.p y.P) := rfl
theorem VClass_st (x : VClass) {a0 a1 a2 a3 a4 a5 a6 : DV} : setAt [a0, a1, a2, a3, a4, a5, a6] 0 (DV.cells (.p x.P)) = DV.cells (.p x.P) := rfl
theorem VClass_f_name (x : VClass) : fldX false 0 1 (.p x.P) = some (.p (.s (.string x.name))) := rfl
theorem VClass_r_name (x : VClass) {h : PT AObj} : ldX false 1 (.p (.rp (x.P.cells))) h = some { dv := .p (.s (.string x.name)) } := rfl
theorem VClass_b_name (x : VClass) : (DV.cells (.p x.P))[0]? = some (.p (.s (.string x.name))) := rfl
theorem VClass_f_seats (x : VClass) : fldX false 1 1 (.p x.P) = some (.p (I x.seats)) := rfl
theorem VClass_r_seats (x : VClass) {h : PT AObj} : ldX false 1 (.p (.rp ((x.P.cells).drop 1))) h = some { dv := .p (I x.seats) } := rfl
theorem VClass_b_seats (x : VClass) : (DV.cells (.p x.P))[1]? = some (.p (I x.seats)) := rfl
theorem VClass_f_gear (x : VClass) : fldX false 2 1 (.p x.P) = some (.p (.s (.int .u16 (x.gear.val : Int)))) := rfl
theorem VClass_r_gear (x : VClass) {h : PT AObj} : ldX false 1 (.p (.rp ((x.P.cells).drop 2))) h = some { dv := .p (.s (.int .u16 (x.gear.val : Int))) } := rfl
theorem VClass_b_gear (x : VClass) : (DV.cells (.p x.P))[2]? = some (.p (.s (.int .u16 (x.gear.val : Int)))) := rfl
theorem VClass_f_persons (x : VClass) : fldX false 3 1 (.p x.P) = some (.p (L x.persons)) := rfl
theorem VClass_r_persons (x : VClass) {h : PT AObj} : ldX false 1 (.p (.rp ((x.P.cells).drop 3))) h = some { dv := .p (L x.persons) } := rfl
theorem VClass_b_persons (x : VClass) : (DV.cells (.p x.P))[3]? = some (.p (L x.persons)) := rfl
theorem VClass_f_times (x : VClass) : fldX false 4 1 (.p x.P) = some (.p (.lst (x.times.map VTime.P))) := rfl
theorem VClass_r_times (x : VClass) {h : PT AObj} : ldX false 1 (.p (.rp ((x.P.cells).drop 4))) h = some { dv := .p (.lst (x.times.map VTime.P)) } := rfl
theorem VClass_b_times (x : VClass) : (DV.cells (.p x.P))[4]? = some (.p (.lst (x.times.map VTime.P))) := rfl
theorem VClass_f_places (x : VClass) : fldX false 5 1 (.p x.P) = some (.p (.lst (x.places.map VPlace.P))) := rfl
theorem VClass_r_places (x : VClass) {h : PT AObj} : ldX false 1 (.p (.rp ((x.P.cells).drop 5))) h = some { dv := .p (.lst (x.places.map VPlace.P)) } := rfl
theorem VClass_b_places (x : VClass) : (DV.cells (.p x.P))[5]? = some (.p (.lst (x.places.map VPlace.P))) := rfl
theorem VClass_f_over (x : VClass) : fldX false 6 1 (.p x.P) = some (.p (I x.over)) := rfl
theorem VClass_r_over (x : VClass) {h : PT AObj} : ldX false 1 (.p (.rp ((x.P.cells).drop 6))) h = some { dv := .p (I x.over) } := rfl
theorem VClass_b_over (x : VClass) : (DV.cells (.p x.P))[6]? = some (.p (I x.over)) := rfl
structure VWay where
  parts : List (List Int)
  deriving DecidableEq
def VWay.P (x : VWay) : PDV := .agg [LL x.parts]
theorem VWay_len (x : VWay) : x.P.cells.length = 1 := rfl
theorem VWay_dlen (x : VWay) : (DV.cells (.p x.P)).length = 1 := rfl
theorem VWay_dc (x : VWay) : DV.cells (.p x.P) = x.P.cells.map .p := rfl
theorem VWay_tup (x : VWay) : (DV.p x.P).tupB = false := rfl
theorem VWay_ld (x : VWay) {h : PT AObj} : ldX true 1 (.p (.rp x.P.cells)) h = some { dv := .p x.P } := rfl
theorem VWay_ldb (x : VWay) : mkAgg ((DV.cells (.p x.P)).take 1) = .p x.P := rfl
theorem VWay_setb (x y : VWay) : setAt (DV.cells (.p x.P)) 0 (DV.cells (.p y.P)) = DV.cells (.p y.P) := rfl
theorem VWay_st (x : VWay) {a0 : DV} : setAt [a0] 0 (DV.cells (.p x.P)) = DV.cells (.p x.P) := rfl
theorem VWay_f_parts (x : VWay) : fldX false 0 1 (.p x.P) = some (.p (LL x.parts)) := rfl
theorem VWay_r_parts (x : VWay) {h : PT AObj} : ldX false 1 (.p (.rp (x.P.cells))) h = some { dv := .p (LL x.parts) } := rfl
theorem VWay_b_parts (x : VWay) : (DV.cells (.p x.P))[0]? = some (.p (LL x.parts)) := rfl
structure VCourse where
  name : ByteArray
  ways : List VWay
  deriving DecidableEq
def VCourse.P (x : VCourse) : PDV := .agg [.s (.string x.name), .lst (x.ways.map VWay.P)]
theorem VCourse_len (x : VCourse) : x.P.cells.length = 2 := rfl
theorem VCourse_dlen (x : VCourse) : (DV.cells (.p x.P)).length = 2 := rfl
theorem VCourse_dc (x : VCourse) : DV.cells (.p x.P) = x.P.cells.map .p := rfl
theorem VCourse_tup (x : VCourse) : (DV.p x.P).tupB = false := rfl
theorem VCourse_ld (x : VCourse) {h : PT AObj} : ldX true 2 (.p (.rp x.P.cells)) h = some { dv := .p x.P } := rfl
theorem VCourse_ldb (x : VCourse) : mkAgg ((DV.cells (.p x.P)).take 2) = .p x.P := rfl
theorem VCourse_setb (x y : VCourse) : setAt (DV.cells (.p x.P)) 0 (DV.cells (.p y.P)) = DV.cells (.p y.P) := rfl
theorem VCourse_st (x : VCourse) {a0 a1 : DV} : setAt [a0, a1] 0 (DV.cells (.p x.P)) = DV.cells (.p x.P) := rfl
theorem VCourse_f_name (x : VCourse) : fldX false 0 1 (.p x.P) = some (.p (.s (.string x.name))) := rfl
theorem VCourse_r_name (x : VCourse) {h : PT AObj} : ldX false 1 (.p (.rp (x.P.cells))) h = some { dv := .p (.s (.string x.name)) } := rfl
theorem VCourse_b_name (x : VCourse) : (DV.cells (.p x.P))[0]? = some (.p (.s (.string x.name))) := rfl
theorem VCourse_f_ways (x : VCourse) : fldX false 1 1 (.p x.P) = some (.p (.lst (x.ways.map VWay.P))) := rfl
theorem VCourse_r_ways (x : VCourse) {h : PT AObj} : ldX false 1 (.p (.rp ((x.P.cells).drop 1))) h = some { dv := .p (.lst (x.ways.map VWay.P)) } := rfl
theorem VCourse_b_ways (x : VCourse) : (DV.cells (.p x.P))[1]? = some (.p (.lst (x.ways.map VWay.P))) := rfl
structure VStudent where
  name : ByteArray
  courses : List Int
  deriving DecidableEq
def VStudent.P (x : VStudent) : PDV := .agg [.s (.string x.name), L x.courses]
theorem VStudent_len (x : VStudent) : x.P.cells.length = 2 := rfl
theorem VStudent_dlen (x : VStudent) : (DV.cells (.p x.P)).length = 2 := rfl
theorem VStudent_dc (x : VStudent) : DV.cells (.p x.P) = x.P.cells.map .p := rfl
theorem VStudent_tup (x : VStudent) : (DV.p x.P).tupB = false := rfl
theorem VStudent_ld (x : VStudent) {h : PT AObj} : ldX true 2 (.p (.rp x.P.cells)) h = some { dv := .p x.P } := rfl
theorem VStudent_ldb (x : VStudent) : mkAgg ((DV.cells (.p x.P)).take 2) = .p x.P := rfl
theorem VStudent_setb (x y : VStudent) : setAt (DV.cells (.p x.P)) 0 (DV.cells (.p y.P)) = DV.cells (.p y.P) := rfl
theorem VStudent_st (x : VStudent) {a0 a1 : DV} : setAt [a0, a1] 0 (DV.cells (.p x.P)) = DV.cells (.p x.P) := rfl
theorem VStudent_f_name (x : VStudent) : fldX false 0 1 (.p x.P) = some (.p (.s (.string x.name))) := rfl
theorem VStudent_r_name (x : VStudent) {h : PT AObj} : ldX false 1 (.p (.rp (x.P.cells))) h = some { dv := .p (.s (.string x.name)) } := rfl
theorem VStudent_b_name (x : VStudent) : (DV.cells (.p x.P))[0]? = some (.p (.s (.string x.name))) := rfl
theorem VStudent_f_courses (x : VStudent) : fldX false 1 1 (.p x.P) = some (.p (L x.courses)) := rfl
theorem VStudent_r_courses (x : VStudent) {h : PT AObj} : ldX false 1 (.p (.rp ((x.P.cells).drop 1))) h = some { dv := .p (L x.courses) } := rfl
theorem VStudent_b_courses (x : VStudent) : (DV.cells (.p x.P))[1]? = some (.p (L x.courses)) := rfl
structure VRule where
  kind : Int
  classes : List Int
  a : Int
  b : Int
  hard : Bool
  cost : Int
  deriving DecidableEq
def VRule.P (x : VRule) : PDV := .agg [I x.kind, L x.classes, I x.a, I x.b, .s (.bool x.hard), I x.cost]
theorem VRule_len (x : VRule) : x.P.cells.length = 6 := rfl
theorem VRule_dlen (x : VRule) : (DV.cells (.p x.P)).length = 6 := rfl
theorem VRule_dc (x : VRule) : DV.cells (.p x.P) = x.P.cells.map .p := rfl
theorem VRule_tup (x : VRule) : (DV.p x.P).tupB = false := rfl
theorem VRule_ld (x : VRule) {h : PT AObj} : ldX true 6 (.p (.rp x.P.cells)) h = some { dv := .p x.P } := rfl
theorem VRule_ldb (x : VRule) : mkAgg ((DV.cells (.p x.P)).take 6) = .p x.P := rfl
theorem VRule_setb (x y : VRule) : setAt (DV.cells (.p x.P)) 0 (DV.cells (.p y.P)) = DV.cells (.p y.P) := rfl
theorem VRule_st (x : VRule) {a0 a1 a2 a3 a4 a5 : DV} : setAt [a0, a1, a2, a3, a4, a5] 0 (DV.cells (.p x.P)) = DV.cells (.p x.P) := rfl
theorem VRule_f_kind (x : VRule) : fldX false 0 1 (.p x.P) = some (.p (I x.kind)) := rfl
theorem VRule_r_kind (x : VRule) {h : PT AObj} : ldX false 1 (.p (.rp (x.P.cells))) h = some { dv := .p (I x.kind) } := rfl
theorem VRule_b_kind (x : VRule) : (DV.cells (.p x.P))[0]? = some (.p (I x.kind)) := rfl
theorem VRule_f_classes (x : VRule) : fldX false 1 1 (.p x.P) = some (.p (L x.classes)) := rfl
theorem VRule_r_classes (x : VRule) {h : PT AObj} : ldX false 1 (.p (.rp ((x.P.cells).drop 1))) h = some { dv := .p (L x.classes) } := rfl
theorem VRule_b_classes (x : VRule) : (DV.cells (.p x.P))[1]? = some (.p (L x.classes)) := rfl
theorem VRule_f_a (x : VRule) : fldX false 2 1 (.p x.P) = some (.p (I x.a)) := rfl
theorem VRule_r_a (x : VRule) {h : PT AObj} : ldX false 1 (.p (.rp ((x.P.cells).drop 2))) h = some { dv := .p (I x.a) } := rfl
theorem VRule_b_a (x : VRule) : (DV.cells (.p x.P))[2]? = some (.p (I x.a)) := rfl
theorem VRule_f_b (x : VRule) : fldX false 3 1 (.p x.P) = some (.p (I x.b)) := rfl
theorem VRule_r_b (x : VRule) {h : PT AObj} : ldX false 1 (.p (.rp ((x.P.cells).drop 3))) h = some { dv := .p (I x.b) } := rfl
theorem VRule_b_b (x : VRule) : (DV.cells (.p x.P))[3]? = some (.p (I x.b)) := rfl
theorem VRule_f_hard (x : VRule) : fldX false 4 1 (.p x.P) = some (.p (.s (.bool x.hard))) := rfl
theorem VRule_r_hard (x : VRule) {h : PT AObj} : ldX false 1 (.p (.rp ((x.P.cells).drop 4))) h = some { dv := .p (.s (.bool x.hard)) } := rfl
theorem VRule_b_hard (x : VRule) : (DV.cells (.p x.P))[4]? = some (.p (.s (.bool x.hard))) := rfl
theorem VRule_f_cost (x : VRule) : fldX false 5 1 (.p x.P) = some (.p (I x.cost)) := rfl
theorem VRule_r_cost (x : VRule) {h : PT AObj} : ldX false 1 (.p (.rp ((x.P.cells).drop 5))) h = some { dv := .p (I x.cost) } := rfl
theorem VRule_b_cost (x : VRule) : (DV.cells (.p x.P))[5]? = some (.p (I x.cost)) := rfl
structure VWeigh where
  time : Int
  place : Int
  rule : Int
  clash : Int
  deriving DecidableEq
def VWeigh.P (x : VWeigh) : PDV := .agg [I x.time, I x.place, I x.rule, I x.clash]
theorem VWeigh_len (x : VWeigh) : x.P.cells.length = 4 := rfl
theorem VWeigh_dlen (x : VWeigh) : (DV.cells (.p x.P)).length = 4 := rfl
theorem VWeigh_dc (x : VWeigh) : DV.cells (.p x.P) = x.P.cells.map .p := rfl
theorem VWeigh_tup (x : VWeigh) : (DV.p x.P).tupB = false := rfl
theorem VWeigh_ld (x : VWeigh) {h : PT AObj} : ldX true 4 (.p (.rp x.P.cells)) h = some { dv := .p x.P } := rfl
theorem VWeigh_ldb (x : VWeigh) : mkAgg ((DV.cells (.p x.P)).take 4) = .p x.P := rfl
theorem VWeigh_setb (x y : VWeigh) : setAt (DV.cells (.p x.P)) 0 (DV.cells (.p y.P)) = DV.cells (.p y.P) := rfl
theorem VWeigh_st (x : VWeigh) {a0 a1 a2 a3 : DV} : setAt [a0, a1, a2, a3] 0 (DV.cells (.p x.P)) = DV.cells (.p x.P) := rfl
theorem VWeigh_f_time (x : VWeigh) : fldX false 0 1 (.p x.P) = some (.p (I x.time)) := rfl
theorem VWeigh_r_time (x : VWeigh) {h : PT AObj} : ldX false 1 (.p (.rp (x.P.cells))) h = some { dv := .p (I x.time) } := rfl
theorem VWeigh_b_time (x : VWeigh) : (DV.cells (.p x.P))[0]? = some (.p (I x.time)) := rfl
theorem VWeigh_f_place (x : VWeigh) : fldX false 1 1 (.p x.P) = some (.p (I x.place)) := rfl
theorem VWeigh_r_place (x : VWeigh) {h : PT AObj} : ldX false 1 (.p (.rp ((x.P.cells).drop 1))) h = some { dv := .p (I x.place) } := rfl
theorem VWeigh_b_place (x : VWeigh) : (DV.cells (.p x.P))[1]? = some (.p (I x.place)) := rfl
theorem VWeigh_f_rule (x : VWeigh) : fldX false 2 1 (.p x.P) = some (.p (I x.rule)) := rfl
theorem VWeigh_r_rule (x : VWeigh) {h : PT AObj} : ldX false 1 (.p (.rp ((x.P.cells).drop 2))) h = some { dv := .p (I x.rule) } := rfl
theorem VWeigh_b_rule (x : VWeigh) : (DV.cells (.p x.P))[2]? = some (.p (I x.rule)) := rfl
theorem VWeigh_f_clash (x : VWeigh) : fldX false 3 1 (.p x.P) = some (.p (I x.clash)) := rfl
theorem VWeigh_r_clash (x : VWeigh) {h : PT AObj} : ldX false 1 (.p (.rp ((x.P.cells).drop 3))) h = some { dv := .p (I x.clash) } := rfl
theorem VWeigh_b_clash (x : VWeigh) : (DV.cells (.p x.P))[3]? = some (.p (I x.clash)) := rfl
structure VProblem where
  name : ByteArray
  grid : VGrid
  rooms : List VRoom
  walk : List (List Int)
  persons : List VPerson
  classes : List VClass
  courses : List VCourse
  students : List VStudent
  rules : List VRule
  weigh : VWeigh
  deriving DecidableEq
def VProblem.P (x : VProblem) : PDV := .agg [.s (.string x.name), I x.grid.weeks, I x.grid.days, I x.grid.slots, .lst (x.rooms.map VRoom.P), LL x.walk, .lst (x.persons.map VPerson.P), .lst (x.classes.map VClass.P), .lst (x.courses.map VCourse.P), .lst (x.students.map VStudent.P), .lst (x.rules.map VRule.P), I x.weigh.time, I x.weigh.place, I x.weigh.rule, I x.weigh.clash]
theorem VProblem_len (x : VProblem) : x.P.cells.length = 15 := rfl
theorem VProblem_dlen (x : VProblem) : (DV.cells (.p x.P)).length = 15 := rfl
theorem VProblem_dc (x : VProblem) : DV.cells (.p x.P) = x.P.cells.map .p := rfl
theorem VProblem_tup (x : VProblem) : (DV.p x.P).tupB = false := rfl
theorem VProblem_ld (x : VProblem) {h : PT AObj} : ldX true 15 (.p (.rp x.P.cells)) h = some { dv := .p x.P } := rfl
theorem VProblem_ldb (x : VProblem) : mkAgg ((DV.cells (.p x.P)).take 15) = .p x.P := rfl
theorem VProblem_setb (x y : VProblem) : setAt (DV.cells (.p x.P)) 0 (DV.cells (.p y.P)) = DV.cells (.p y.P) := rfl
theorem VProblem_st (x : VProblem) {a0 a1 a2 a3 a4 a5 a6 a7 a8 a9 a10 a11 a12 a13 a14 : DV} : setAt [a0, a1, a2, a3, a4, a5, a6, a7, a8, a9, a10, a11, a12, a13, a14] 0 (DV.cells (.p x.P)) = DV.cells (.p x.P) := rfl
theorem VProblem_f_name (x : VProblem) : fldX false 0 1 (.p x.P) = some (.p (.s (.string x.name))) := rfl
theorem VProblem_r_name (x : VProblem) {h : PT AObj} : ldX false 1 (.p (.rp (x.P.cells))) h = some { dv := .p (.s (.string x.name)) } := rfl
theorem VProblem_b_name (x : VProblem) : (DV.cells (.p x.P))[0]? = some (.p (.s (.string x.name))) := rfl
theorem VProblem_f_grid (x : VProblem) : fldX true 1 3 (.p x.P) = some (.p (x.grid).P) := rfl
theorem VProblem_r_grid (x : VProblem) {h : PT AObj} : ldX true 3 (.p (.rp ((x.P.cells).drop 1))) h = some { dv := .p (x.grid).P } := rfl
theorem VProblem_b_grid (x : VProblem) : mkAgg ((((DV.cells (.p x.P)).drop 1)).take 3) = .p (x.grid).P := rfl
theorem VProblem_r_grid_weeks (x : VProblem) {h : PT AObj} : ldX false 1 (.p (.rp (((x.P.cells).drop 1)))) h = some { dv := .p (I x.grid.weeks) } := rfl
theorem VProblem_b_grid_weeks (x : VProblem) : (DV.cells (.p x.P))[1]? = some (.p (I x.grid.weeks)) := rfl
theorem VProblem_r_grid_days (x : VProblem) {h : PT AObj} : ldX false 1 (.p (.rp ((((x.P.cells).drop 1)).drop 1))) h = some { dv := .p (I x.grid.days) } := rfl
theorem VProblem_b_grid_days (x : VProblem) : (DV.cells (.p x.P))[2]? = some (.p (I x.grid.days)) := rfl
theorem VProblem_r_grid_slots (x : VProblem) {h : PT AObj} : ldX false 1 (.p (.rp ((((x.P.cells).drop 1)).drop 2))) h = some { dv := .p (I x.grid.slots) } := rfl
theorem VProblem_b_grid_slots (x : VProblem) : (DV.cells (.p x.P))[3]? = some (.p (I x.grid.slots)) := rfl
theorem VProblem_f_rooms (x : VProblem) : fldX false 4 1 (.p x.P) = some (.p (.lst (x.rooms.map VRoom.P))) := rfl
theorem VProblem_r_rooms (x : VProblem) {h : PT AObj} : ldX false 1 (.p (.rp ((x.P.cells).drop 4))) h = some { dv := .p (.lst (x.rooms.map VRoom.P)) } := rfl
theorem VProblem_b_rooms (x : VProblem) : (DV.cells (.p x.P))[4]? = some (.p (.lst (x.rooms.map VRoom.P))) := rfl
theorem VProblem_f_walk (x : VProblem) : fldX false 5 1 (.p x.P) = some (.p (LL x.walk)) := rfl
theorem VProblem_r_walk (x : VProblem) {h : PT AObj} : ldX false 1 (.p (.rp ((x.P.cells).drop 5))) h = some { dv := .p (LL x.walk) } := rfl
theorem VProblem_b_walk (x : VProblem) : (DV.cells (.p x.P))[5]? = some (.p (LL x.walk)) := rfl
theorem VProblem_f_persons (x : VProblem) : fldX false 6 1 (.p x.P) = some (.p (.lst (x.persons.map VPerson.P))) := rfl
theorem VProblem_r_persons (x : VProblem) {h : PT AObj} : ldX false 1 (.p (.rp ((x.P.cells).drop 6))) h = some { dv := .p (.lst (x.persons.map VPerson.P)) } := rfl
theorem VProblem_b_persons (x : VProblem) : (DV.cells (.p x.P))[6]? = some (.p (.lst (x.persons.map VPerson.P))) := rfl
theorem VProblem_f_classes (x : VProblem) : fldX false 7 1 (.p x.P) = some (.p (.lst (x.classes.map VClass.P))) := rfl
theorem VProblem_r_classes (x : VProblem) {h : PT AObj} : ldX false 1 (.p (.rp ((x.P.cells).drop 7))) h = some { dv := .p (.lst (x.classes.map VClass.P)) } := rfl
theorem VProblem_b_classes (x : VProblem) : (DV.cells (.p x.P))[7]? = some (.p (.lst (x.classes.map VClass.P))) := rfl
theorem VProblem_f_courses (x : VProblem) : fldX false 8 1 (.p x.P) = some (.p (.lst (x.courses.map VCourse.P))) := rfl
theorem VProblem_r_courses (x : VProblem) {h : PT AObj} : ldX false 1 (.p (.rp ((x.P.cells).drop 8))) h = some { dv := .p (.lst (x.courses.map VCourse.P)) } := rfl
theorem VProblem_b_courses (x : VProblem) : (DV.cells (.p x.P))[8]? = some (.p (.lst (x.courses.map VCourse.P))) := rfl
theorem VProblem_f_students (x : VProblem) : fldX false 9 1 (.p x.P) = some (.p (.lst (x.students.map VStudent.P))) := rfl
theorem VProblem_r_students (x : VProblem) {h : PT AObj} : ldX false 1 (.p (.rp ((x.P.cells).drop 9))) h = some { dv := .p (.lst (x.students.map VStudent.P)) } := rfl
theorem VProblem_b_students (x : VProblem) : (DV.cells (.p x.P))[9]? = some (.p (.lst (x.students.map VStudent.P))) := rfl
theorem VProblem_f_rules (x : VProblem) : fldX false 10 1 (.p x.P) = some (.p (.lst (x.rules.map VRule.P))) := rfl
theorem VProblem_r_rules (x : VProblem) {h : PT AObj} : ldX false 1 (.p (.rp ((x.P.cells).drop 10))) h = some { dv := .p (.lst (x.rules.map VRule.P)) } := rfl
theorem VProblem_b_rules (x : VProblem) : (DV.cells (.p x.P))[10]? = some (.p (.lst (x.rules.map VRule.P))) := rfl
theorem VProblem_f_weigh (x : VProblem) : fldX true 11 4 (.p x.P) = some (.p (x.weigh).P) := rfl
theorem VProblem_r_weigh (x : VProblem) {h : PT AObj} : ldX true 4 (.p (.rp ((x.P.cells).drop 11))) h = some { dv := .p (x.weigh).P } := rfl
theorem VProblem_b_weigh (x : VProblem) : mkAgg ((((DV.cells (.p x.P)).drop 11)).take 4) = .p (x.weigh).P := rfl
theorem VProblem_r_weigh_time (x : VProblem) {h : PT AObj} : ldX false 1 (.p (.rp (((x.P.cells).drop 11)))) h = some { dv := .p (I x.weigh.time) } := rfl
theorem VProblem_b_weigh_time (x : VProblem) : (DV.cells (.p x.P))[11]? = some (.p (I x.weigh.time)) := rfl
theorem VProblem_r_weigh_place (x : VProblem) {h : PT AObj} : ldX false 1 (.p (.rp ((((x.P.cells).drop 11)).drop 1))) h = some { dv := .p (I x.weigh.place) } := rfl
theorem VProblem_b_weigh_place (x : VProblem) : (DV.cells (.p x.P))[12]? = some (.p (I x.weigh.place)) := rfl
theorem VProblem_r_weigh_rule (x : VProblem) {h : PT AObj} : ldX false 1 (.p (.rp ((((x.P.cells).drop 11)).drop 2))) h = some { dv := .p (I x.weigh.rule) } := rfl
theorem VProblem_b_weigh_rule (x : VProblem) : (DV.cells (.p x.P))[13]? = some (.p (I x.weigh.rule)) := rfl
theorem VProblem_r_weigh_clash (x : VProblem) {h : PT AObj} : ldX false 1 (.p (.rp ((((x.P.cells).drop 11)).drop 3))) h = some { dv := .p (I x.weigh.clash) } := rfl
theorem VProblem_b_weigh_clash (x : VProblem) : (DV.cells (.p x.P))[14]? = some (.p (I x.weigh.clash)) := rfl
structure VSeat where
  time : Int
  place : Int
  deriving DecidableEq
def VSeat.P (x : VSeat) : PDV := .agg [I x.time, I x.place]
theorem VSeat_len (x : VSeat) : x.P.cells.length = 2 := rfl
theorem VSeat_dlen (x : VSeat) : (DV.cells (.p x.P)).length = 2 := rfl
theorem VSeat_dc (x : VSeat) : DV.cells (.p x.P) = x.P.cells.map .p := rfl
theorem VSeat_tup (x : VSeat) : (DV.p x.P).tupB = false := rfl
theorem VSeat_ld (x : VSeat) {h : PT AObj} : ldX true 2 (.p (.rp x.P.cells)) h = some { dv := .p x.P } := rfl
theorem VSeat_ldb (x : VSeat) : mkAgg ((DV.cells (.p x.P)).take 2) = .p x.P := rfl
theorem VSeat_setb (x y : VSeat) : setAt (DV.cells (.p x.P)) 0 (DV.cells (.p y.P)) = DV.cells (.p y.P) := rfl
theorem VSeat_st (x : VSeat) {a0 a1 : DV} : setAt [a0, a1] 0 (DV.cells (.p x.P)) = DV.cells (.p x.P) := rfl
theorem VSeat_f_time (x : VSeat) : fldX false 0 1 (.p x.P) = some (.p (I x.time)) := rfl
theorem VSeat_r_time (x : VSeat) {h : PT AObj} : ldX false 1 (.p (.rp (x.P.cells))) h = some { dv := .p (I x.time) } := rfl
theorem VSeat_b_time (x : VSeat) : (DV.cells (.p x.P))[0]? = some (.p (I x.time)) := rfl
theorem VSeat_f_place (x : VSeat) : fldX false 1 1 (.p x.P) = some (.p (I x.place)) := rfl
theorem VSeat_r_place (x : VSeat) {h : PT AObj} : ldX false 1 (.p (.rp ((x.P.cells).drop 1))) h = some { dv := .p (I x.place) } := rfl
theorem VSeat_b_place (x : VSeat) : (DV.cells (.p x.P))[1]? = some (.p (I x.place)) := rfl
structure VLoad where
  classes : List (List Int)
  deriving DecidableEq
def VLoad.P (x : VLoad) : PDV := .agg [LL x.classes]
theorem VLoad_len (x : VLoad) : x.P.cells.length = 1 := rfl
theorem VLoad_dlen (x : VLoad) : (DV.cells (.p x.P)).length = 1 := rfl
theorem VLoad_dc (x : VLoad) : DV.cells (.p x.P) = x.P.cells.map .p := rfl
theorem VLoad_tup (x : VLoad) : (DV.p x.P).tupB = false := rfl
theorem VLoad_ld (x : VLoad) {h : PT AObj} : ldX true 1 (.p (.rp x.P.cells)) h = some { dv := .p x.P } := rfl
theorem VLoad_ldb (x : VLoad) : mkAgg ((DV.cells (.p x.P)).take 1) = .p x.P := rfl
theorem VLoad_setb (x y : VLoad) : setAt (DV.cells (.p x.P)) 0 (DV.cells (.p y.P)) = DV.cells (.p y.P) := rfl
theorem VLoad_st (x : VLoad) {a0 : DV} : setAt [a0] 0 (DV.cells (.p x.P)) = DV.cells (.p x.P) := rfl
theorem VLoad_f_classes (x : VLoad) : fldX false 0 1 (.p x.P) = some (.p (LL x.classes)) := rfl
theorem VLoad_r_classes (x : VLoad) {h : PT AObj} : ldX false 1 (.p (.rp (x.P.cells))) h = some { dv := .p (LL x.classes) } := rfl
theorem VLoad_b_classes (x : VLoad) : (DV.cells (.p x.P))[0]? = some (.p (LL x.classes)) := rfl
structure VSpot where
  when : VWhen
  room : Int
  deriving DecidableEq
def VSpot.P (x : VSpot) : PDV := .agg [.s (.int .u32 (x.when.weeks.val : Int)), .s (.int .u8 (x.when.days.val : Int)), I x.when.start, I x.when.len, I x.room]
theorem VSpot_len (x : VSpot) : x.P.cells.length = 5 := rfl
theorem VSpot_dlen (x : VSpot) : (DV.cells (.p x.P)).length = 5 := rfl
theorem VSpot_dc (x : VSpot) : DV.cells (.p x.P) = x.P.cells.map .p := rfl
theorem VSpot_tup (x : VSpot) : (DV.p x.P).tupB = false := rfl
theorem VSpot_ld (x : VSpot) {h : PT AObj} : ldX true 5 (.p (.rp x.P.cells)) h = some { dv := .p x.P } := rfl
theorem VSpot_ldb (x : VSpot) : mkAgg ((DV.cells (.p x.P)).take 5) = .p x.P := rfl
theorem VSpot_setb (x y : VSpot) : setAt (DV.cells (.p x.P)) 0 (DV.cells (.p y.P)) = DV.cells (.p y.P) := rfl
theorem VSpot_st (x : VSpot) {a0 a1 a2 a3 a4 : DV} : setAt [a0, a1, a2, a3, a4] 0 (DV.cells (.p x.P)) = DV.cells (.p x.P) := rfl
theorem VSpot_f_when (x : VSpot) : fldX true 0 4 (.p x.P) = some (.p (x.when).P) := rfl
theorem VSpot_r_when (x : VSpot) {h : PT AObj} : ldX true 4 (.p (.rp (x.P.cells))) h = some { dv := .p (x.when).P } := rfl
theorem VSpot_b_when (x : VSpot) : mkAgg (((DV.cells (.p x.P))).take 4) = .p (x.when).P := rfl
theorem VSpot_r_when_weeks (x : VSpot) {h : PT AObj} : ldX false 1 (.p (.rp ((x.P.cells)))) h = some { dv := .p (.s (.int .u32 (x.when.weeks.val : Int))) } := rfl
theorem VSpot_b_when_weeks (x : VSpot) : (DV.cells (.p x.P))[0]? = some (.p (.s (.int .u32 (x.when.weeks.val : Int)))) := rfl
theorem VSpot_r_when_days (x : VSpot) {h : PT AObj} : ldX false 1 (.p (.rp (((x.P.cells)).drop 1))) h = some { dv := .p (.s (.int .u8 (x.when.days.val : Int))) } := rfl
theorem VSpot_b_when_days (x : VSpot) : (DV.cells (.p x.P))[1]? = some (.p (.s (.int .u8 (x.when.days.val : Int)))) := rfl
theorem VSpot_r_when_start (x : VSpot) {h : PT AObj} : ldX false 1 (.p (.rp (((x.P.cells)).drop 2))) h = some { dv := .p (I x.when.start) } := rfl
theorem VSpot_b_when_start (x : VSpot) : (DV.cells (.p x.P))[2]? = some (.p (I x.when.start)) := rfl
theorem VSpot_r_when_len (x : VSpot) {h : PT AObj} : ldX false 1 (.p (.rp (((x.P.cells)).drop 3))) h = some { dv := .p (I x.when.len) } := rfl
theorem VSpot_b_when_len (x : VSpot) : (DV.cells (.p x.P))[3]? = some (.p (I x.when.len)) := rfl
theorem VSpot_f_room (x : VSpot) : fldX false 4 1 (.p x.P) = some (.p (I x.room)) := rfl
theorem VSpot_r_room (x : VSpot) {h : PT AObj} : ldX false 1 (.p (.rp ((x.P.cells).drop 4))) h = some { dv := .p (I x.room) } := rfl
theorem VSpot_b_room (x : VSpot) : (DV.cells (.p x.P))[4]? = some (.p (I x.room)) := rfl
end Go.Proofs.YtddmnddocbmjnaaGreat.Dv
namespace Go.Proofs.YtddmnddocbmjnaaGreat.Dv
section
variable {P : Program} {G : Cfg} {fn : FuncId} {Q : DX → St → Prop}
theorem opsW_split {o : MO} {os : List MO} {id : Nat} {dr : Option (Array Nat)} {lg : List Log} {s : St} {c : Bool} (h1 : c = true → opsW P G fn o os id dr lg s Q (some true)) (h2 : c = false → opsW P G fn o os id dr lg s Q (some false)) : opsW P G fn o os id dr lg s Q (some c) := by
  cases c
  · exact h2 rfl
  · exact h1 rfl
theorem condX_split {a b : M} {s : St} {c : Bool} (h1 : c = true → condX P G fn a b s Q (some true)) (h2 : c = false → condX P G fn a b s Q (some false)) : condX P G fn a b s Q (some c) := by
  cases c
  · exact h2 rfl
  · exact h1 rfl
theorem opsW_splitN {o : MO} {os : List MO} {id : Nat} {dr : Option (Array Nat)} {lg : List Log} {s : St} {c : Bool} (h1 : c = true → opsW P G fn o os id dr lg s Q (some false)) (h2 : c = false → opsW P G fn o os id dr lg s Q (some true)) : opsW P G fn o os id dr lg s Q (some (!c)) := by
  cases c
  · exact h2 rfl
  · exact h1 rfl
theorem condX_splitN {a b : M} {s : St} {c : Bool} (h1 : c = true → condX P G fn a b s Q (some false)) (h2 : c = false → condX P G fn a b s Q (some true)) : condX P G fn a b s Q (some (!c)) := by
  cases c
  · exact h2 rfl
  · exact h1 rfl
theorem s_bool {a b : Bool} : (PDV.s (.bool a) = B b) ↔ a = b := by simp [B]
def kF (ci n : Nat) (J : Nat → St → Prop) (i : Nat) (Q : DX → St → Prop) : DX → St → Prop
  | .normal, s => i < n ∧ s.t.get ci = some (.p (.s (.int .i64 (IntKind.wrap .i64 ((i : Int) + 1))))) ∧ J (i + 1) s
  | x, s => Q x s
theorem kF_normal {ci n i : Nat} {J : Nat → St → Prop} {s : St} : kF ci n J i Q .normal s ↔ i < n ∧ s.t.get ci = some (.p (.s (.int .i64 (IntKind.wrap .i64 ((i : Int) + 1))))) ∧ J (i + 1) s := Iff.rfl
theorem kF_ret {ci n i : Nat} {J : Nat → St → Prop} {s : St} : kF ci n J i Q .ret s ↔ Q .ret s := Iff.rfl
theorem kF_exit {ci n i j : Nat} {J : Nat → St → Prop} {s : St} : kF ci n J i Q (.exit j) s ↔ Q (.exit j) s := Iff.rfl
theorem X_for {c : M} {s : St} (ci n : Nat) (J : Nat → St → Prop) (i0 : Nat) (hn : n < 4611686018427387904) (h0 : s.t.get ci = some (.p (.s (.int .i64 (i0 : Int))))) (hi0 : i0 ≤ n) (hJ : J i0 s)
    (hb : ∀ i t h nx, (∀ j, wrM j c = false → t.get j = s.t.get j) → i0 ≤ i → i ≤ n → t.get ci = some (.p (.s (.int .i64 (i : Int)))) → J i ⟨t, h, nx⟩ → X P G fn c ⟨t, h, nx⟩ (kF ci n J i Q)) : X P G fn (.loop c) s Q := by
  refine X_loop (fun m s' => ∃ i, m = n - i ∧ i0 ≤ i ∧ i ≤ n ∧ s'.t.get ci = some (.p (.s (.int .i64 (i : Int)))) ∧ J i s') (n - i0) ⟨i0, rfl, Nat.le_refl _, hi0, h0, hJ⟩ ?_
  rintro m ⟨t, h, nx⟩ hf ⟨i, hm, hi1, hi, hc, hj⟩
  refine X_mono (hb i t h nx hf hi1 hi hc hj) ?_
  intro x r hr
  cases x with
  | normal =>
    obtain ⟨h1, h2, h3⟩ := hr
    rw [wrap_id (by omega) (by omega)] at h2
    exact ⟨n - (i + 1), by omega, i + 1, rfl, by omega, by omega, by rw [h2]; rfl, h3⟩
  | exit id => exact hr
  | ret => exact hr
theorem beq_tt {b : Bool} : (b == true) = b := by cases b <;> rfl
theorem beq_ff {b : Bool} : (b == false) = !b := by cases b <;> rfl
theorem wM_some {d : Nat} {w b : Bool} {t : PT DV} (h : t.get d = some (.p (.s (.bool b)))) : wM (some (some d, w)) t = some (b == w) := by simp [wM, h]
theorem iadrS_map {α : Type} {k : Nat} {f : α → PDV} {l : List α} {i : Nat} : iadrSX k (.p (.lst (l.map f))) (.p (.s (.int .i64 (i : Int)))) = (l[i]?).bind fun x => if k = (f x).cells.length then some (.p (.rp (f x).cells)) else none := by
  simp only [iadrSX, asI]
  rw [if_neg (by omega)]
  simp only [Int.toNat_natCast, List.getElem?_map]
  cases l[i]? <;> rfl
theorem cells_s {v : Value} : (PDV.s v).cells.length = 1 := rfl
theorem cells_l {l : List PDV} : (PDV.lst l).cells.length = 1 := rfl
theorem ld_s {v : Value} {h : PT AObj} : ldX false 1 (.p (.rp (PDV.s v).cells)) h = some { dv := .p (.s v) } := rfl
theorem ld_l {l : List PDV} {h : PT AObj} : ldX false 1 (.p (.rp (PDV.lst l).cells)) h = some { dv := .p (.lst l) } := rfl
theorem fadr_rp {off : Nat} {ds : List PDV} : fadrX off (.p (.rp ds)) = if off ≤ ds.length then some (.p (.rp (ds.drop off))) else none := rfl
theorem fadr_mp {off i o : Nat} : fadrX off (.mp i o) = some (.mp i (o + off)) := rfl
theorem ld_mp {g : Bool} {k i off : Nat} {h : PT AObj} : ldX g k (.mp i off) h = match h.get i with
    | some (.cells cs _) => if g then (if off + k ≤ cs.length then some { dv := mkAgg ((cs.drop off).take k), rd := [i] } else none) else match cs[off]? with
      | some d => some { dv := d, rd := [i] }
      | none => none
    | _ => none := rfl
theorem tup_s {v : Value} : (DV.p (.s v)).tupB = false := rfl
theorem tup_l {l : List PDV} : (DV.p (.lst l)).tupB = false := rfl
theorem cells_dv_s {v : Value} : DV.cells (.p (.s v)) = [.p (.s v)] := rfl
theorem cells_dv_l {l : List PDV} : DV.cells (.p (.lst l)) = [.p (.lst l)] := rfl
theorem get_dec {α : Type} {l : List α} {i : Nat} (h : decide ((i : Int) < (l.length : Int)) = true) : ∃ x, l[i]? = some x ∧ i < l.length ∧ l.take (i + 1) = l.take i ++ [x] := by
  have hi : i < l.length := by simpa using h
  exact ⟨l[i], List.getElem?_eq_getElem hi, hi, by rw [List.take_add_one, List.getElem?_eq_getElem hi]; rfl⟩
theorem end_dec {α : Type} {l : List α} {i : Nat} (h : decide ((i : Int) < (l.length : Int)) = false) (hi : i ≤ l.length) : i = l.length ∧ l.take i = l := by
  have : i = l.length := by
    have : ¬ (i : Int) < (l.length : Int) := by simpa using h
    omega
  exact ⟨this, by rw [this, List.take_length]⟩
theorem cvI_i {k k' : IntKind} {n : Int} : cvIX k (.p (.s (.int k' n))) = some (.p (.s (.int k (k.wrap n)))) := rfl
theorem iop_shr {k k' : IntKind} {a b : Int} : iopX .shr (.p (.s (.int k a))) (.p (.s (.int k' b))) = if b < 0 then none else some (.p (.s (.int k (a.fdiv (2 ^ (min b.toNat k.bits)))))) := by
  by_cases h : b < 0 <;> simp [iopX, shI, h]
theorem iop_rem {k : IntKind} {a b : Int} : iopX .rem (.p (.s (.int k a))) (.p (.s (.int k b))) = if b = 0 then none else some (.p (.s (.int k (a.tmod b)))) := by
  by_cases h : b = 0 <;> simp [iopX, binI, h]
theorem iop_quo {k : IntKind} {a b : Int} : iopX .quo (.p (.s (.int k a))) (.p (.s (.int k b))) = if b = 0 then none else some (.p (.s (.int k (k.wrap (a.tdiv b))))) := by
  by_cases h : b = 0 <;> simp [iopX, binI, h]
def andI (k : IntKind) (a b : Int) : Int := k.wrap (BitVec.ofInt k.bits a &&& BitVec.ofInt k.bits b).toNat
theorem iop_and {k : IntKind} {a b : Int} : iopX .and (.p (.s (.int k a))) (.p (.s (.int k b))) = some (.p (.s (.int k (andI k a b)))) := by simp [iopX, binI, andI]
theorem un_not {b : Bool} : Dv.un .not (.p (.s (.bool b))) = some (.p (.s (.bool (!b)))) := rfl
theorem bop_b {n a b : Bool} : bopX n (.p (.s (.bool a))) (.p (.s (.bool b))) = some (bl n (a == b)) := rfl
theorem bl_f {b : Bool} : bl false b = .p (.s (.bool b)) := rfl
theorem bl_t {b : Bool} : bl true b = .p (.s (.bool (!b))) := rfl
theorem aop_a {ks : List Nat} {n : Bool} {a b : List PDV} : aopX ks n (.p (.agg a)) (.p (.agg b)) = (eqL ks a b).map (bl n) := rfl
theorem mx_two {m : Bool} {a b : Int} : foldO (mxI m) (.p (.s (.int .i64 a))) [.p (.s (.int .i64 b))] = some (.p (.s (.int .i64 (if m then max a b else min a b)))) := by
  cases m <;> simp only [foldO, mxI] <;> simp <;> split <;> omega
theorem sop_eql {a b : ByteArray} : sopX .eql (.p (.s (.string a))) (.p (.s (.string b))) = some (.p (.s (.bool (decide (a.toList = b.toList))))) := by
  simp [sopX, strCmp]
  by_cases h : a.toList = b.toList <;> simp [h]
theorem sop_neq {a b : ByteArray} : sopX .neq (.p (.s (.string a))) (.p (.s (.string b))) = some (.p (.s (.bool (!decide (a.toList = b.toList))))) := by
  simp [sopX, strCmp]
  by_cases h : a.toList = b.toList <;> simp [h]
theorem lenS_s {a : ByteArray} : lenSX (.p (.s (.string a))) = some (.p (.s (.int .i64 (a.size : Int)))) := rfl
theorem xtr_p {i : Nat} {l : List PDV} : Dv.xtr (.p (.tup l)) i = (l[i]?).map .p := rfl
theorem optL_cons {α β : Type} {f : α → Option β} {x : α} {xs : List α} : optL f (x :: xs) = match f x with
  | none => none
  | some y => match optL f xs with
    | none => none
    | some ys => some (y :: ys) := rfl
theorem optL_nil {α β : Type} {f : α → Option β} : optL f [] = some [] := rfl
theorem mkTup_p2 {a b : PDV} : mkTup [.p a, .p b] = .p (.tup [a, b]) := rfl
theorem mkTup_p3 {a b c : PDV} : mkTup [.p a, .p b, .p c] = .p (.tup [a, b, c]) := rfl
theorem wrap_u64 {n : Nat} (h : n < 18446744073709551616) : IntKind.wrap .u64 (n : Int) = (n : Int) := by
  unfold IntKind.wrap
  simp [IntKind.bits, IntKind.signed, IntKind.min, IntKind.max]
  omega
theorem wrap_u32 {n : Nat} (h : n < 4294967296) : IntKind.wrap .u32 (n : Int) = (n : Int) := by
  unfold IntKind.wrap
  simp [IntKind.bits, IntKind.signed, IntKind.min, IntKind.max]
  omega
theorem fdiv_nat {n m : Nat} : (n : Int).fdiv (2 ^ m) = ((n / 2 ^ m : Nat) : Int) := by
  rw [Int.fdiv_eq_ediv_of_nonneg _ (by exact_mod_cast Nat.zero_le (2 ^ m))]
  push_cast
  rfl
theorem nat_neg {n : Nat} : ((n : Int) < 0) = False := by simp
theorem two_ne : ((2 : Int) = 0) = False := by simp
theorem bits_u32 : IntKind.bits .u32 = 32 := rfl
theorem bits_u8 : IntKind.bits .u8 = 8 := rfl
theorem bits_i64 : IntKind.bits .i64 = 64 := rfl
theorem bits_none {n k m : Nat} (hn : n < 2 ^ m) : (∀ i, k ≤ i → i < m → n.testBit i = false) ↔ n / 2 ^ k = 0 := by
  constructor
  · intro h
    apply Nat.eq_of_testBit_eq
    intro i
    rw [Nat.testBit_div_two_pow, Nat.zero_testBit]
    by_cases hi : k + i < m
    · rw [Nat.add_comm] at hi
      exact h (i + k) (by omega) hi
    · exact Nat.testBit_lt_two_pow (Nat.lt_of_lt_of_le hn (Nat.pow_le_pow_right (by omega) (by omega)))
  · intro h i hi _
    have : n < 2 ^ k := by
      rcases Nat.lt_or_ge n (2 ^ k) with h1 | h1
      · exact h1
      · have := Nat.div_pos h1 (Nat.two_pow_pos k)
        omega
    exact Nat.testBit_lt_two_pow (Nat.lt_of_lt_of_le this (Nat.pow_le_pow_right (by omega) hi))
theorem bit_val (n i : Nat) (hn : n < 4294967296) : decide (((n : Int).fdiv (2 ^ min i 32)).tmod 2 = 1) = n.testBit i := by
  have h1 : (n : Int).fdiv (2 ^ min i 32) = ((n / 2 ^ min i 32 : Nat) : Int) := by
    rw [Int.fdiv_eq_ediv_of_nonneg _ (by exact_mod_cast Nat.zero_le (2 ^ min i 32))]
    push_cast
    rfl
  rw [h1]
  have h2 : ((n / 2 ^ min i 32 : Nat) : Int).tmod 2 = ((n / 2 ^ min i 32 % 2 : Nat) : Int) := rfl
  rw [h2, Nat.testBit_eq_decide_div_mod_eq]
  by_cases hi : i ≤ 32
  · rw [Nat.min_eq_left hi]
    have : (((n / 2 ^ i % 2 : Nat) : Int) = 1) ↔ n / 2 ^ i % 2 = 1 := by omega
    simp only [this]
  · rw [Nat.min_eq_right (by omega)]
    have e1 : n / 2 ^ 32 = 0 := Nat.div_eq_of_lt (by omega)
    have e2 : n / 2 ^ i = 0 := Nat.div_eq_of_lt (Nat.lt_of_lt_of_le (by omega : n < 2 ^ 32) (Nat.pow_le_pow_right (by omega) (by omega)))
    rw [e1, e2]
    simp
theorem mkAgg_1 {a : PDV} : mkAgg [.p a] = .p (.agg [a]) := rfl
theorem mkAgg_2 {a b : PDV} : mkAgg [.p a, .p b] = .p (.agg [a, b]) := rfl
theorem mkAgg_3 {a b c : PDV} : mkAgg [.p a, .p b, .p c] = .p (.agg [a, b, c]) := rfl
theorem mkAgg_4 {a b c d : PDV} : mkAgg [.p a, .p b, .p c, .p d] = .p (.agg [a, b, c, d]) := rfl
theorem mkAgg_5 {a b c d e : PDV} : mkAgg [.p a, .p b, .p c, .p d, .p e] = .p (.agg [a, b, c, d, e]) := rfl
theorem layR_nil {cs : List DV} : layR cs [] = some cs := rfl
theorem layR_cons {cs : List DV} {off k : Nat} {v : DV} {r : List (Nat × Nat × DV)} : layR cs ((off, k, v) :: r) = if v.tupB = false ∧ v.cells.length = k ∧ off + k ≤ cs.length then layR (setAt cs off v.cells) r else none := rfl
theorem setAt_nil {cs : List DV} : setAt cs 0 [] = cs := by simp [setAt]
theorem setAt_zero {a x : DV} {cs xs : List DV} : setAt (a :: cs) 0 (x :: xs) = x :: setAt cs 0 xs := by simp [setAt, Nat.add_comm]
theorem setAt_succ {a : DV} {n : Nat} {cs xs : List DV} : setAt (a :: cs) (n + 1) xs = a :: setAt cs n xs := by
  simp [setAt, Nat.add_right_comm]
theorem cells_dv_agg {l : List PDV} : DV.cells (.p (.agg l)) = l.map .p := rfl
theorem tup_agg {l : List PDV} : (DV.p (.agg l)).tupB = false := rfl
theorem sto_mp {k i off : Nat} {x : DV} {h : PT AObj} : stoX k (.mp i off) x h = match h.get i with
    | some (.cells cs false) => if x.tupB = false ∧ x.cells.length = k ∧ off + k ≤ cs.length then some { dv := .p (.tup []), rd := [i], up := [(i, some (.cells (setAt cs off x.cells) false))] } else none
    | _ => none := rfl
theorem andI_nat32 {a b : Nat} (ha : a < 4294967296) (hb : b < 4294967296) : andI .u32 (a : Int) (b : Int) = ((a &&& b : Nat) : Int) := by
  unfold andI
  have e : (BitVec.ofInt 32 (a : Int) &&& BitVec.ofInt 32 (b : Int)).toNat = a &&& b := by
    rw [BitVec.toNat_and]
    simp only [BitVec.ofInt_natCast, BitVec.toNat_ofNat]
    rw [Nat.mod_eq_of_lt (by simpa using ha), Nat.mod_eq_of_lt (by simpa using hb)]
  have : IntKind.bits .u32 = 32 := rfl
  rw [this, e]
  exact wrap_u32 (Nat.lt_of_le_of_lt Nat.and_le_left ha)
theorem wrap_u8 {n : Nat} (h : n < 256) : IntKind.wrap .u8 (n : Int) = (n : Int) := by
  unfold IntKind.wrap
  simp [IntKind.bits, IntKind.signed, IntKind.min, IntKind.max]
  omega
theorem andI_nat8 {a b : Nat} (ha : a < 256) (hb : b < 256) : andI .u8 (a : Int) (b : Int) = ((a &&& b : Nat) : Int) := by
  unfold andI
  have e : (BitVec.ofInt 8 (a : Int) &&& BitVec.ofInt 8 (b : Int)).toNat = a &&& b := by
    rw [BitVec.toNat_and]
    simp only [BitVec.ofInt_natCast, BitVec.toNat_ofNat]
    rw [Nat.mod_eq_of_lt (by simpa using ha), Nat.mod_eq_of_lt (by simpa using hb)]
  have : IntKind.bits .u8 = 8 := rfl
  rw [this, e]
  exact wrap_u8 (Nat.lt_of_le_of_lt Nat.and_le_left ha)
theorem and_some {a b m : Nat} (ha : a < 2 ^ m) : (a &&& b) ≠ 0 ↔ ∃ i, i < m ∧ a.testBit i = true ∧ b.testBit i = true := by
  constructor
  · intro h
    obtain ⟨i, hi⟩ := Nat.exists_testBit_of_ne_zero h
    rw [Nat.testBit_and, Bool.and_eq_true] at hi
    refine ⟨i, ?_, hi.1, hi.2⟩
    rcases Nat.lt_or_ge i m with h1 | h1
    · exact h1
    · rw [Nat.testBit_lt_two_pow (Nat.lt_of_lt_of_le ha (Nat.pow_le_pow_right (by omega) h1))] at hi
      cases hi.1
  · rintro ⟨i, _, h1, h2⟩ h
    have := congrArg (·.testBit i) h
    simp [Nat.testBit_and, h1, h2] at this
noncomputable def mRes (P : Program) (G : Cfg) (g : FuncId) (dst : Option Nat) (s : St) : Option (List PDV × List Nat) → Option (St × Log)
  | some (ps, rd) => effS dst s (match res P G g ps with
    | some q => some { dv := .p q, rd := rd, up := if q.ref then freeze s.h rd else [] }
    | none => none)
  | none => none
theorem mCall_pure {g : FuncId} (hm : G.mode fn g = .pure) {xs : List DV} {dst : Option Nat} {id : Nat} {s : St} : mCall G fn (callR P G) g xs dst id s = mRes P G g dst s (snaps s.h xs) := by
  unfold mCall
  simp only [hm]
  unfold callE mRes res
  cases hs : snaps s.h xs with
  | none => rfl
  | some r =>
    obtain ⟨ps, rd⟩ := r
    simp only
    cases hc : callR P G g (ps.map .p) .leaf 0 with
    | none => rfl
    | some q =>
      obtain ⟨r, h1, n1⟩ := q
      simp only
      cases hq : snap h1 r with
      | none => rfl
      | some z => rfl
def mRes0 (dst : Option Nat) (s : St) : Option PDV → Option (St × Log)
  | some q => some (⟨putD s.t dst (.p q), s.h, s.nx⟩, { ran := true, rd := [], wr := [] })
  | none => none
theorem mRes_nil {g : FuncId} {dst : Option Nat} {s : St} {ps : List PDV} : mRes P G g dst s (some (ps, [])) = mRes0 dst s (res P G g ps) := by
  simp only [mRes]
  generalize res P G g ps = x
  cases x with
  | none => rfl
  | some q =>
    simp only [effS, freeze, mRes0]
    cases q.ref <;> rfl
theorem mRes0_some {dst : Option Nat} {s : St} {q : PDV} : mRes0 dst s (some q) = some (⟨putD s.t dst (.p q), s.h, s.nx⟩, { ran := true, rd := [], wr := [] }) := rfl
theorem snaps_nil {h : PT AObj} : snaps h [] = some ([], []) := rfl
def consS : Option (PDV × List Nat) → Option (List PDV × List Nat) → Option (List PDV × List Nat)
  | some (x, r), some (xs, rs) => some (x :: xs, r ++ rs)
  | _, _ => none
theorem snaps_cons {h : PT AObj} {d : DV} {ds : List DV} : snaps h (d :: ds) = consS (snap h d) (snaps h ds) := by
  unfold snaps
  simp only [snapL]
  cases snap h d with
  | none => rfl
  | some x =>
    obtain ⟨x, r⟩ := x
    cases snapL (snap h) ds <;> rfl
theorem consS_some {x : PDV} {xs : List PDV} {r rs : List Nat} : consS (some (x, r)) (some (xs, rs)) = some (x :: xs, r ++ rs) := rfl
def App (P : Program) (G : Cfg) (c : PDV) (xs : List PDV) (q : PDV) : Prop := ∃ g ys, target (.p c) (xs.map .p) = some (g, ys.map .p) ∧ callable P g = true ∧ (∀ fn, G.mode fn g = .pure) ∧ res P G g ys = some q
theorem snaps_p : ∀ {ys : List PDV} {h : PT AObj}, snaps h (ys.map .p) = some (ys, [])
  | [], h => rfl
  | y :: ys, h => by rw [List.map_cons, snaps_cons, snap_p, snaps_p]; rfl
theorem callv_app {c : PDV} {xs : List PDV} {q : PDV} (ha : App P G c xs q) {zas : List DV} (has : zas = xs.map .p) {dst : Option Nat} {id : Nat} {s : St} : callvX P G fn (callR P G) (.p c) zas dst id s = some (⟨putD s.t dst (.p q), s.h, s.nx⟩, { ran := true, rd := [], wr := [] }) := by
  obtain ⟨g, ys, h1, h2, h3, h4⟩ := ha
  subst has
  unfold callvX
  simp only [h1, h2, if_true]
  rw [mCall_pure (h3 fn), snaps_p, mRes_nil, h4]
  rfl
theorem callv_1 {c x q : PDV} (ha : App P G c [x] q) (fn : FuncId) (dst : Option Nat) (id : Nat) (s : St) : callvX P G fn (callR P G) (.p c) [.p x] dst id s = some (⟨putD s.t dst (.p q), s.h, s.nx⟩, { ran := true, rd := [], wr := [] }) := callv_app ha rfl
theorem callv_2 {c x y q : PDV} (ha : App P G c [x, y] q) (fn : FuncId) (dst : Option Nat) (id : Nat) (s : St) : callvX P G fn (callR P G) (.p c) [.p x, .p y] dst id s = some (⟨putD s.t dst (.p q), s.h, s.nx⟩, { ran := true, rd := [], wr := [] }) := callv_app ha rfl
theorem App_clo {g : FuncId} {fi ca xs : List PDV} {q : PDV} (h2 : callable P g = true) (h3 : ∀ fn, G.mode fn g = .pure) (h4 : res P G g (fi ++ xs ++ ca) = some q) : App P G (.clo (.func g) fi ca) xs q := ⟨g, fi ++ xs ++ ca, by simp [target], h2, h3, h4⟩
theorem App_fn {g : FuncId} {xs : List PDV} {q : PDV} (h2 : callable P g = true) (h3 : ∀ fn, G.mode fn g = .pure) (h4 : res P G g xs = some q) : App P G (.s (.func (.func g) #[] #[])) xs q := ⟨g, xs, by simp [target], h2, h3, h4⟩
theorem snapL_p {h : PT AObj} {n : Nat} : ∀ {ys : List PDV}, snapL (snapF h (n + 1)) (ys.map .p) = some (ys, [])
  | [] => rfl
  | y :: ys => by
    simp only [List.map_cons, snapL, snapL_p]
    rfl
theorem snap_clo1 {h : PT AObj} {f : Fn} {i : Nat} {ys : List PDV} {cs : List DV} {fz : Bool} (hg : h.get i = some (.cells cs fz)) (hc : cs = ys.map .p) : snap h (.clo f [] [.mp i 0]) = some (.clo f [] [.rp ys], [i]) := by
  subst hc
  simp [snap, snapF, snapL, hg, snapL_p]
theorem mkClo_mp {f : Fn} {i o : Nat} : mkClo f [] [.mp i o] = .clo f [] [.mp i o] := rfl
theorem res_ex {f : FuncId} {m : MF} (hc : comp P G f = some m) {ps : List PDV} (hl : ps.length ≤ m.n) {R : PDV → Prop} (hx : X P G f m.body ⟨argsT 0 (ps.map .p) .leaf, .leaf, 0⟩ (Ret m.res fun r h _ => ∃ q, (snap h r).map (·.1) = some q ∧ R q)) : ∃ q, res P G f ps = some q ∧ R q := by
  obtain ⟨r, h', n', h1, q, h2, h3⟩ := callR_body hc (by simpa using hl) hx
  refine ⟨q, ?_, h3⟩
  unfold res
  rw [h1]
  exact h2
theorem indep_ro {b : Array Nat} : ∀ (ls : List Log) (i : Nat), (ls.all fun l => !l.big && l.wr.isEmpty) = true → indep b i ls = true := by
  have aux : ∀ (ls : List Log) (la : Log) (i j : Nat), la.big = false → la.wr = [] → (ls.all fun l => !l.big && l.wr.isEmpty) = true → indepAux b la i j ls = true := by
    intro ls
    induction ls with
    | nil => intro la i j _ _ _; rfl
    | cons l ls ih =>
      intro la i j h1 h3 h4
      simp only [List.all_cons, Bool.and_eq_true, Bool.not_eq_true', List.isEmpty_iff] at h4
      obtain ⟨⟨h5, h7⟩, h8⟩ := h4
      simp only [indepAux, Bool.and_eq_true, Bool.or_eq_true]
      refine ⟨.inr ?_, ih la i (j + 1) h1 h3 h8⟩
      simp [clash, h1, h3, h5, h7, meets]
  intro ls
  induction ls with
  | nil => intro i _; rfl
  | cons l ls ih =>
    intro i h
    simp only [List.all_cons, Bool.and_eq_true, Bool.not_eq_true', List.isEmpty_iff] at h
    obtain ⟨⟨h5, h7⟩, h8⟩ := h
    simp only [indep, Bool.and_eq_true]
    exact ⟨aux ls l i (i + 1) h5 h7 h8, ih (i + 1) h8⟩
theorem indepO_ro {b : Array Nat} {ls : List Log} (h : (ls.all fun l => !l.big && l.wr.isEmpty) = true) : indepO (some b) ls = true := indep_ro ls 0 h
def oneL : List Log → Bool
  | [] => true
  | l :: ls => if quietL l then oneL ls else !l.big && ls.all quietL
theorem indep_one {b : Array Nat} : ∀ (ls : List Log) (i : Nat), oneL ls = true → indep b i ls = true := by
  have aux1 : ∀ (ls : List Log) (la : Log) (i j : Nat), la.big = false → ls.all quietL = true → indepAux b la i j ls = true := by
    intro ls
    induction ls with
    | nil => intro la i j _ _; rfl
    | cons l ls ih =>
      intro la i j h1 h4
      simp only [List.all_cons, quietL, Bool.and_eq_true, Bool.not_eq_true', List.isEmpty_iff] at h4
      obtain ⟨⟨⟨h5, h6⟩, h7⟩, h8⟩ := h4
      simp only [indepAux, Bool.and_eq_true, Bool.or_eq_true]
      refine ⟨.inr ?_, ih la i (j + 1) h1 (by simpa [quietL] using h8)⟩
      simp [clash, h1, h5, h6, h7, meets]
  have aux2 : ∀ (ls : List Log) (la : Log) (i j : Nat), quietL la = true → oneL ls = true → indepAux b la i j ls = true := by
    intro ls
    induction ls with
    | nil => intro la i j _ _; rfl
    | cons l ls ih =>
      intro la i j h1 h4
      have h1' := h1
      simp only [quietL, Bool.and_eq_true, Bool.not_eq_true', List.isEmpty_iff] at h1'
      obtain ⟨⟨h5, h6⟩, h7⟩ := h1'
      have hbig : l.big = false ∧ oneL ls = true := by
        simp only [oneL] at h4
        split at h4
        · rename_i hq
          simp only [quietL, Bool.and_eq_true, Bool.not_eq_true'] at hq
          exact ⟨hq.1.1, h4⟩
        · simp only [Bool.and_eq_true, Bool.not_eq_true'] at h4
          refine ⟨h4.1, ?_⟩
          have : ∀ ls : List Log, ls.all quietL = true → oneL ls = true := by
            intro ls
            induction ls with
            | nil => intro _; rfl
            | cons m ms ihm =>
              intro hh
              simp only [List.all_cons, Bool.and_eq_true] at hh
              simp only [oneL, hh.1, if_true]
              exact ihm hh.2
          exact this ls h4.2
      simp only [indepAux, Bool.and_eq_true, Bool.or_eq_true]
      refine ⟨.inr ?_, ih la i (j + 1) h1 hbig.2⟩
      simp [clash, h5, h6, h7, hbig.1, meets]
  intro ls
  induction ls with
  | nil => intro i _; rfl
  | cons l ls ih =>
    intro i h
    simp only [oneL] at h
    simp only [indep, Bool.and_eq_true]
    split at h
    · rename_i hq
      exact ⟨aux2 ls l i (i + 1) hq h, ih (i + 1) h⟩
    · simp only [Bool.and_eq_true, Bool.not_eq_true'] at h
      refine ⟨aux1 ls l i (i + 1) h.1 h.2, ?_⟩
      exact indep_quiet ls (i + 1) h.2
theorem indepO_one {b : Array Nat} {ls : List Log} (h : oneL ls = true) : indepO (some b) ls = true := indep_one ls 0 h
def roL : List Log → Bool
  | [] => true
  | l :: ls => !l.big && l.wr.isEmpty && roL ls
theorem roL_nil : roL [] = true := rfl
theorem roL_cons {r : Bool} {rd : List Nat} {ls : List Log} : roL (⟨r, false, rd, []⟩ :: ls) = roL ls := by simp [roL]
theorem roL_all : ∀ {ls : List Log}, roL ls = true → (ls.all fun l => !l.big && l.wr.isEmpty) = true
  | [], _ => rfl
  | l :: ls, h => by
    simp only [roL, Bool.and_eq_true] at h
    simp only [List.all_cons, Bool.and_eq_true]
    exact ⟨h.1, roL_all h.2⟩
theorem indepO_rev {b : Array Nat} {ls : List Log} (h : roL ls = true) : indepO (some b) ls.reverse = true := indepO_ro (by
  have := roL_all h
  rw [List.all_eq_true] at this ⊢
  intro x hx
  exact this x (List.mem_reverse.1 hx))
theorem indepO_none {ls : List Log} : indepO none ls = true := rfl
end
end Go.Proofs.YtddmnddocbmjnaaGreat.Dv
namespace Go.Proofs.YtddmnddocbmjnaaGreat.Dv
section
variable {P : Program} {G : Cfg} {fn : FuncId}
def snapC (h : PT AObj) (f : Fn) (i : Nat) : Option AObj → Option (PDV × List Nat)
  | some (.cells cs _) => match snapL (snapF h 38) cs with
    | some (ys, rs) => some (.clo f [] [.rp ys], i :: rs)
    | none => none
  | _ => none
theorem snap_clo {h : PT AObj} {f : Fn} {i : Nat} : snap h (.clo f [] [.mp i 0]) = snapC h f i (h.get i) := by
  simp only [snap, snapF, snapL, List.drop_zero]
  cases h.get i with
  | none => rfl
  | some o =>
    cases o with
    | cells cs fz =>
      simp only [snapC]
      cases snapL (snapF h 38) cs with
      | none => rfl
      | some r =>
        obtain ⟨ys, rs⟩ := r
        simp
    | tip k => rfl
    | map es => rfl
theorem snapC_grid {h : PT AObj} {f : Fn} {i : Nat} {g : VGrid} {fz : Bool} : snapC h f i (some (.cells (DV.cells (.p g.P)) fz)) = some (.clo f [] [.rp g.P.cells], [i]) := by
  simp only [snapC, VGrid_dc, snapL_p]
theorem snapC_problem {h : PT AObj} {f : Fn} {i : Nat} {g : VProblem} {fz : Bool} : snapC h f i (some (.cells (DV.cells (.p g.P)) fz)) = some (.clo f [] [.rp g.P.cells], [i]) := by
  simp only [snapC, VProblem_dc, snapL_p]
def mRes1 (dst : Option Nat) (s : St) (rd : List Nat) : Option PDV → Option (St × Log)
  | some q => some (⟨putD s.t dst (.p q), applyUp s.h (if q.ref then freeze s.h rd else []), s.nx⟩, { ran := true, rd := rd, wr := (if q.ref then freeze s.h rd else []).map (·.1) })
  | none => none
theorem mRes_cons {g : FuncId} {dst : Option Nat} {s : St} {ps : List PDV} {r : Nat} {rd : List Nat} : mRes P G g dst s (some (ps, r :: rd)) = mRes1 dst s (r :: rd) (res P G g ps) := by
  simp only [mRes]
  generalize res P G g ps = x
  cases x <;> rfl
theorem mRes1_s {dst : Option Nat} {s : St} {rd : List Nat} {v : Value} : mRes1 dst s rd (some (.s v)) = some (⟨putD s.t dst (.p (.s v)), s.h, s.nx⟩, { ran := true, rd := rd, wr := [] }) := rfl
theorem mRes1_t2 {dst : Option Nat} {s : St} {rd : List Nat} {u v : Value} : mRes1 dst s rd (some (.tup [.s u, .s v])) = some (⟨putD s.t dst (.p (.tup [.s u, .s v])), s.h, s.nx⟩, { ran := true, rd := rd, wr := [] }) := rfl
def memB {α : Type} [DecidableEq α] (x : α) (l : List α) : Bool := decide (x ∈ l)
theorem memB_iff {α : Type} [DecidableEq α] {x : α} {l : List α} : memB x l = true ↔ x ∈ l := by simp [memB]
theorem memB_not {α : Type} [DecidableEq α] {x : α} {l : List α} : memB x l = false ↔ x ∉ l := by simp [memB]
def mapS {α : Type} (f : α → PDV) (l : List α) : List (PDV × DV) := l.map fun k => (f k, DV.p (B true))
structure Key {α : Type} [DecidableEq α] (f : α → PDV) (g : Bool) (ks : List Nat) : Prop where
  eq : ∀ a b, eqK ks (f a) (f b) = some (decide (a = b))
  ok : ∀ a, keyX g (f a) = true
theorem key_int : Key I false [0] := ⟨fun a b => by
  simp only [eqK, eqL, eq1]
  by_cases h : a = b <;> simp [h], fun a => rfl⟩
theorem toList_inj {a b : ByteArray} (h : a.toList = b.toList) : a = b := by
  rw [ByteArray.toList_eq, ByteArray.toList_eq] at h
  cases a; cases b
  simp at h
  simp [h]
theorem key_str : Key (fun s : ByteArray => PDV.s (.string s)) false [2] := ⟨fun a b => by
  simp only [eqK, eqL, eq1]
  by_cases h : a = b
  · subst h; simp
  · have : ¬ a.toList = b.toList := fun e => h (toList_inj e)
    simp [h, this], fun a => rfl⟩
theorem key_when : Key VWhen.P true [0, 0, 0, 0] := ⟨fun a b => by
  simp only [eqK, VWhen.P, eqL, eq1]
  have : decide (a = b) = (((a.weeks.val : Int) == (b.weeks.val : Int)) && (((a.days.val : Int) == (b.days.val : Int)) && ((a.start == b.start) && ((a.len == b.len) && true)))) := by
    obtain ⟨a1, a2, a3, a4⟩ := a
    obtain ⟨b1, b2, b3, b4⟩ := b
    rw [Bool.eq_iff_iff]
    simp [Fin.ext_iff]
    omega
  simp only [if_true, this], fun a => rfl⟩
section
variable {α : Type} [DecidableEq α] {f : α → PDV} {g : Bool} {ks : List Nat} (K : Key f g ks)
include K
theorem findK_set {x : α} : ∀ {l : List α} {i : Nat}, l.Nodup → ∃ j, findK ks (f x) (mapS f l) i = some (if x ∈ l then some (j, DV.p (B true)) else none)
  | [], i, _ => ⟨0, by simp [mapS, findK]⟩
  | y :: l, i, hn => by
    rw [List.nodup_cons] at hn
    obtain ⟨j, hj⟩ := findK_set (l := l) (i := i + 1) hn.2
    simp only [mapS, List.map_cons, findK, K.eq]
    rw [show List.map (fun k => (f k, DV.p (B true))) l = mapS f l from rfl, hj]
    by_cases h : x = y
    · subst h
      simp [hn.1]
    · simp only [h, decide_false, List.mem_cons, false_or]
      exact ⟨j, rfl⟩
theorem lkp_set {x : α} {l : List α} (hn : l.Nodup) {i : Nat} {h : PT AObj} (hg : h.get i = some (.map (mapS f l))) : lkpX g ks (.p (.s (.bool false))) false (.mm i) (.p (f x)) h = some { dv := .p (.s (.bool (memB x l))), rd := [i] } := by
  obtain ⟨j, hj⟩ := findK_set K (x := x) (i := 0) hn
  simp only [lkpX, K.ok, K.eq, decide_true, Option.isSome_some, and_self, if_true, hg, hj]
  by_cases hx : x ∈ l
  · simp [hx, memB]
  · simp [hx, memB]
theorem mup_set {x : α} {l : List α} (hn : l.Nodup) (hx : x ∉ l) {i : Nat} {h : PT AObj} (hg : h.get i = some (.map (mapS f l))) : mupX g ks (.mm i) (.p (f x)) (.p (.s (.bool true))) h = some { dv := .p (.tup []), rd := [i], up := [(i, some (.map (mapS f (l ++ [x]))))] } := by
  obtain ⟨j, hj⟩ := findK_set K (x := x) (i := 0) hn
  simp only [mupX, K.ok, K.eq, decide_true, Option.isSome_some, and_self, if_true, hg, hj, hx, if_false]
  simp [mapS]
end
def strP (s : ByteArray) : PDV := .s (.string s)
def intP (n : Int) : PDV := .s (.int .i64 n)
theorem lkp_str {x : ByteArray} {l : List ByteArray} (hn : l.Nodup) {i : Nat} {h : PT AObj} (hg : h.get i = some (.map (mapS strP l))) : lkpX false [2] (.p (.s (.bool false))) false (.mm i) (.p (.s (.string x))) h = some { dv := .p (.s (.bool (memB x l))), rd := [i] } := lkp_set key_str hn hg
theorem mup_str {x : ByteArray} {l : List ByteArray} (hn : l.Nodup) (hx : x ∉ l) {i : Nat} {h : PT AObj} (hg : h.get i = some (.map (mapS strP l))) : mupX false [2] (.mm i) (.p (.s (.string x))) (.p (.s (.bool true))) h = some { dv := .p (.tup []), rd := [i], up := [(i, some (.map (mapS strP (l ++ [x]))))] } := mup_set key_str hn hx hg
theorem lkp_int {x : Int} {l : List Int} (hn : l.Nodup) {i : Nat} {h : PT AObj} (hg : h.get i = some (.map (mapS intP l))) : lkpX false [0] (.p (.s (.bool false))) false (.mm i) (.p (.s (.int .i64 x))) h = some { dv := .p (.s (.bool (memB x l))), rd := [i] } := lkp_set key_int hn hg
theorem mup_int {x : Int} {l : List Int} (hn : l.Nodup) (hx : x ∉ l) {i : Nat} {h : PT AObj} (hg : h.get i = some (.map (mapS intP l))) : mupX false [0] (.mm i) (.p (.s (.int .i64 x))) (.p (.s (.bool true))) h = some { dv := .p (.tup []), rd := [i], up := [(i, some (.map (mapS intP (l ++ [x]))))] } := mup_set key_int hn hx hg
theorem lkp_when {x : VWhen} {l : List VWhen} (hn : l.Nodup) {i : Nat} {h : PT AObj} (hg : h.get i = some (.map (mapS VWhen.P l))) : lkpX true [0, 0, 0, 0] (.p (.s (.bool false))) false (.mm i) (.p x.P) h = some { dv := .p (.s (.bool (memB x l))), rd := [i] } := lkp_set key_when hn hg
theorem mup_when {x : VWhen} {l : List VWhen} (hn : l.Nodup) (hx : x ∉ l) {i : Nat} {h : PT AObj} (hg : h.get i = some (.map (mapS VWhen.P l))) : mupX true [0, 0, 0, 0] (.mm i) (.p x.P) (.p (.s (.bool true))) h = some { dv := .p (.tup []), rd := [i], up := [(i, some (.map (mapS VWhen.P (l ++ [x]))))] } := mup_set key_when hn hx hg
def nqs : Nat → List Log → List (Nat × Log)
  | _, [] => []
  | i, l :: ls => if quietL l then nqs (i + 1) ls else (i, l) :: nqs (i + 1) ls
def nqA (b : Array Nat) (i : Nat) (la : Log) : List (Nat × Log) → Bool
  | [] => true
  | (j, lb) :: r => ((b.getD j 0).testBit i || !clash la lb) && nqA b i la r
def nqP (b : Array Nat) : List (Nat × Log) → Bool
  | [] => true
  | (i, l) :: r => nqA b i l r && nqP b r
def noBig : List Log → Bool
  | [] => true
  | l :: ls => !l.big && noBig ls
theorem clash_quiet {a b : Log} (ha : a.big = false) (hb : quietL b = true) : clash a b = false := by
  simp only [quietL, Bool.and_eq_true, Bool.not_eq_true', List.isEmpty_iff] at hb
  obtain ⟨⟨h1, h2⟩, h3⟩ := hb
  simp [clash, ha, h1, h2, h3, meets]
theorem clash_quiet' {a b : Log} (hb : b.big = false) (ha : quietL a = true) : clash a b = false := by
  simp only [quietL, Bool.and_eq_true, Bool.not_eq_true', List.isEmpty_iff] at ha
  obtain ⟨⟨h1, h2⟩, h3⟩ := ha
  simp [clash, hb, h1, h2, h3, meets]
theorem nq_aux {b : Array Nat} {la : Log} {i : Nat} (hb : la.big = false) : ∀ (ls : List Log) (j : Nat), noBig ls = true → (quietL la = true ∨ nqA b i la (nqs j ls) = true) → indepAux b la i j ls = true
  | [], j, _, _ => rfl
  | l :: ls, j, hn, h => by
    simp only [noBig, Bool.and_eq_true, Bool.not_eq_true'] at hn
    simp only [indepAux, Bool.and_eq_true]
    rcases h with h | h
    · refine ⟨?_, nq_aux hb ls (j + 1) hn.2 (.inl h)⟩
      rw [clash_quiet' hn.1 h]; simp
    · simp only [nqs] at h
      by_cases hq : quietL l = true
      · rw [if_pos hq] at h
        refine ⟨?_, nq_aux hb ls (j + 1) hn.2 (.inr h)⟩
        rw [clash_quiet hb hq]; simp
      · rw [if_neg hq] at h
        simp only [nqA, Bool.and_eq_true] at h
        exact ⟨h.1, nq_aux hb ls (j + 1) hn.2 (.inr h.2)⟩
theorem nq_indep {b : Array Nat} : ∀ (ls : List Log) (i : Nat), noBig ls = true → nqP b (nqs i ls) = true → indep b i ls = true
  | [], i, _, _ => rfl
  | l :: ls, i, hn, h => by
    have hn' := hn
    simp only [noBig, Bool.and_eq_true, Bool.not_eq_true'] at hn
    simp only [indep, Bool.and_eq_true]
    simp only [nqs] at h
    by_cases hq : quietL l = true
    · rw [if_pos hq] at h
      exact ⟨nq_aux hn.1 ls (i + 1) hn.2 (.inl hq), nq_indep ls (i + 1) hn.2 h⟩
    · rw [if_neg hq] at h
      simp only [nqP, Bool.and_eq_true] at h
      exact ⟨nq_aux hn.1 ls (i + 1) hn.2 (.inr h.1), nq_indep ls (i + 1) hn.2 h.2⟩
theorem and_indep {b : Array Nat} {ls : List Log} {B : Prop} (h1 : noBig ls.reverse = true) (h2 : nqP b (nqs 0 ls.reverse) = true) (hB : B) : indepO (some b) ls.reverse = true ∧ B := ⟨nq_indep _ 0 h1 h2, hB⟩
def nodupB {α : Type} [DecidableEq α] : List α → Bool
  | [] => true
  | x :: l => !memB x l && nodupB l
theorem nodupB_iff {α : Type} [DecidableEq α] : ∀ {l : List α}, nodupB l = true ↔ l.Nodup
  | [] => by simp [nodupB]
  | x :: l => by simp [nodupB, List.nodup_cons, nodupB_iff, memB]
theorem nodup_snoc {α : Type} {l : List α} {x : α} : (l ++ [x]).Nodup ↔ l.Nodup ∧ x ∉ l := by
  rw [List.nodup_append]
  simp only [List.nodup_cons, List.not_mem_nil, not_false_eq_true, List.nodup_nil, and_self, true_and, List.mem_singleton]
  constructor
  · rintro ⟨h1, h2⟩; exact ⟨h1, fun h => h2 x h x rfl rfl⟩
  · rintro ⟨h1, h2⟩; exact ⟨h1, fun a ha b hb => by subst hb; intro e; subst e; exact h2 ha⟩
end
end Go.Proofs.YtddmnddocbmjnaaGreat.Dv
