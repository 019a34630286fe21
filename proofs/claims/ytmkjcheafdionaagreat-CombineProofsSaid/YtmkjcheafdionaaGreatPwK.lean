/- Opening a law's arguments: arrays of ints, structs of two ints. Conditions: none. -/
import Derived.Test.YtmkjcheafdionaaGreatPwL
import Derived.ChangeSame

